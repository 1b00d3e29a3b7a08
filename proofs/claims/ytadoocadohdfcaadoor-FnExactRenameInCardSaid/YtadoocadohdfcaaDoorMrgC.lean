/- Renam, RenP: several texts in one. -/
import Derived.WalkSpells
import Derived.Test.YtadoocadohdfcaaDoorProg
import Derived.Test.YtadoocadohdfcaaDoorNamesU
import Derived.Test.YtadoocadohdfcaaDoorStrSl
import Derived.Test.YtadoocadohdfcaaDoorMrgB
namespace Go.Proofs.YtadoocadohdfcaaDoor
open Go Go.Proofs Go.RowKit
set_option linter.unusedVariables false
set_option linter.unusedSimpArgs false
set_option maxRecDepth 100000
def swp (f t s : ByteArray) : ByteArray := if (s.toList == f.toList) = true then t else s
theorem swp_next {f t : ByteArray} {xs : List ByteArray} {k : Nat} (h : k < xs.length) : (xs.take (k + 1)).map (swp f t) = (xs.take k).map (swp f t) ++ [swp f t xs[k]] := by
  rw [List.take_succ_eq_append_getElem h, List.map_append]; rfl
set_option maxHeartbeats 1000000 in
theorem sSwap_any (v : Value) (xs : List ByteArray) (f t : ByteArray) (w : World) (hv : RdS w v xs) (hn : xs.length ≤ 1048576) :
    Calls Tryd.prog 41 #[v, .string f, .string t] w fun e w' => ∃ r, e = .returned r ∧ New w w' ∧ w'.ownsRow w.heap.size 9 1 r xs.length ((xs.map (swp f t)).map Value.string) := by
  obtain ⟨i0, hi, hz0, hz1, hz2⟩ := info_parts infoStrC
  obtain ⟨a, cap, rfl, hm, HC⟩ := hv.open
  clear hv
  go_enter Tryd.func41, Tryd.ntmps41
  go_wp2_with fail
  go_loopw [7, 8] (fun o i wr => ∃ k : Nat, k ≤ xs.length ∧ i = .int .i64 k ∧ New w wr ∧ wr.ownsRow w.heap.size 9 1 o k (((xs.take k).map (swp f t)).map Value.string)) (fun _ i _ => xs.length - (intOf i).toNat)
  case atStart => exact ⟨0, Nat.zero_le _, rfl, (by repeat (first | with_reducible exact New.refl _ | with_reducible assumption | with_reducible refine New.drew ?_ | with_reducible refine New.drewN ?_ _ | with_reducible refine New.alloc ?_ _ | with_reducible refine New.setCell ?_ (by first | (simp; done) | (simp; omega) | omega) _ | with_reducible refine New.trans ?_ (by with_reducible assumption))), own_empty (Nat.le_refl _)⟩
  case round =>
    obtain ⟨k, hk, rfl, hb, hown⟩ := hrel
    obtain ⟨cc, f'⟩ := hb.rules
    have hbz := hb.size
    by_cases hlt : k < xs.length
    · obtain ⟨b, off, rfl, hbl, hx⟩ := HC.out w (New.refl w) k hlt
      have hbw : b < wr.heap.size := by omega
      have HN := Lib.hid (swp_next (f := f) (t := t) hlt)
      generalize xs[k] = x at *
      rcases Bool.eq_false_or_eq_true (x.toList == f.toList) with g1 | g1
      · have HS := Lib.hid (show swp f t x = t by rw [swp, if_pos g1])
        go_wp2_with (first | ((at_builtin; refine wpList_append_own _ rfl _ _ 22 rfl (w.heap.size) 9 i0 (.string ⟨#[]⟩) 1 16 Tryd.underlying22 hi hz0 hz1 hz2 rfl (by decide) _ _ _ rfl (hown.alloc _) ⟨wr.heap.size, 0, none⟩ 1 1 [.string (t)] rfl rfl (by intro j u hj; match j, hj with | 0, hj => simp at hj; subst hj; first | (simp [Addr.add]; done) | exact alloc_one rfl) (by intro u hu; simp at hu; subst hu; rfl) (by unfold maxLen; omega) (by omega) (by first | (simp; done) | (simp; omega) | omega) ?_; intro va wa howna hgra _)))
        have ba := New.grown (hb.alloc _) hgra (fun q hq => by have := (own_block_lt hown q hq).1; simpa using this)
        go_roundw
        case rel => exact ⟨k + 1, by omega, by go_num, ba, by rw [HN.out, HS.out, List.map_append]; exact howna⟩
        case measure => simp [intOf]; omega
      · have HS := Lib.hid (show swp f t x = x by rw [swp, g1]; rfl)
        go_wp2_with (first | ((at_builtin; refine wpList_append_own _ rfl _ _ 22 rfl (w.heap.size) 9 i0 (.string ⟨#[]⟩) 1 16 Tryd.underlying22 hi hz0 hz1 hz2 rfl (by decide) _ _ _ rfl (hown.alloc _) ⟨wr.heap.size, 0, none⟩ 1 1 [.string (x)] rfl rfl (by intro j u hj; match j, hj with | 0, hj => simp at hj; subst hj; first | (simp [Addr.add]; done) | exact alloc_one rfl) (by intro u hu; simp at hu; subst hu; rfl) (by unfold maxLen; omega) (by omega) (by first | (simp; done) | (simp; omega) | omega) ?_; intro va wa howna hgra _)))
        have ba := New.grown (hb.alloc _) hgra (fun q hq => by have := (own_block_lt hown q hq).1; simpa using this)
        go_roundw
        case rel => exact ⟨k + 1, by omega, by go_num, ba, by rw [HN.out, HS.out, List.map_append]; exact howna⟩
        case measure => simp [intOf]; omega
    · obtain rfl : k = xs.length := by omega
      go_wp2_with fail
      go_ret
      exact ⟨_, rfl, hb, by simpa using hown⟩
set_option maxHeartbeats 1000000 in
theorem cloneS_any (v : Value) (xs : List ByteArray) (w : World) (hv : RdS w v xs) (hn : xs.length ≤ 1048576) :
    Calls Tryd.prog 117 #[v] w fun e w' => ∃ r, e = .returned r ∧ New w w' ∧ w'.ownsRow w.heap.size 9 1 r xs.length (xs.map Value.string) := by
  obtain ⟨i0, hi, hz0, hz1, hz2⟩ := info_parts infoStrC
  have HV := Lib.hid hv
  obtain ⟨a, cap, rfl, hm, ⟨hno, _⟩, _⟩ := hv
  have hnil := fun (w : World) (a : Option Addr) (n c : Nat) => Lib.run_eql_slice_nil (P := Tryd.prog) w 22 9 a n c 0 0 Tryd.underlying22
  cases a with
  | none =>
    have hx : xs = [] := List.eq_nil_of_length_eq_zero (hno rfl)
    subst hx
    go_enter Tryd.func117, Tryd.ntmps117
    go_wp2_with fail
    go_ret
    exact ⟨_, rfl, (by repeat (first | with_reducible exact New.refl _ | with_reducible assumption | with_reducible refine New.drew ?_ | with_reducible refine New.drewN ?_ _ | with_reducible refine New.alloc ?_ _ | with_reducible refine New.setCell ?_ (by first | (simp; done) | (simp; omega) | omega) _ | with_reducible refine New.trans ?_ (by with_reducible assumption))), ⟨rfl, .inl ⟨rfl, rfl⟩⟩⟩
  | some ad =>
    have own0 : (w.alloc (.cells #[] 9)).ownsRow w.heap.size 9 1 (.slice (some ⟨w.heap.size, 0, none⟩) 0 0) 0 [] := own_empty (Nat.le_refl _)
    go_enter Tryd.func117, Tryd.ntmps117
    go_wp2_with (first | ((at_builtin; refine wpList_append_rd rfl _ _ 22 rfl (w.heap.size) 9 i0 (.string ⟨#[]⟩) 1 16 Tryd.underlying22 hi hz0 hz1 hz2 rfl (by decide) _ _ _ rfl (own0) _ (xs.length) (xs.map Value.string) rfl (Rd.new HV.out (by repeat (first | with_reducible exact New.refl _ | with_reducible assumption | with_reducible refine New.drew ?_ | with_reducible refine New.drewN ?_ _ | with_reducible refine New.alloc ?_ _ | with_reducible refine New.setCell ?_ (by first | (simp; done) | (simp; omega) | omega) _ | with_reducible refine New.trans ?_ (by with_reducible assumption)))) (by simp) (by intro u hu; obtain ⟨y, _, rfl⟩ := List.mem_map.1 hu; rfl) (by unfold maxLen; omega) (by omega) (by first | (simp; done) | (simp; omega) | omega) ?_; intro va wa howna hgra)))
    have ba := New.grown (show New w _ by exact (by repeat (first | with_reducible exact New.refl _ | with_reducible assumption | with_reducible refine New.drew ?_ | with_reducible refine New.drewN ?_ _ | with_reducible refine New.alloc ?_ _ | with_reducible refine New.setCell ?_ (by first | (simp; done) | (simp; omega) | omega) _ | with_reducible refine New.trans ?_ (by with_reducible assumption)))) hgra (fun q hq => by have := (own_block_lt own0 q hq).1; simpa using this)
    go_ret
    exact ⟨_, rfl, ba, by simpa using howna⟩
def swTo (f t : ByteArray) (xs : List ByteArray) (k : Nat) : List Value := (((xs.take k).map (swp f t)) ++ xs.drop k).map Value.string
theorem swTo_len {f t : ByteArray} {xs : List ByteArray} {k : Nat} (h : k ≤ xs.length) : (swTo f t xs k).length = xs.length := by
  simp [swTo]; omega
theorem swTo_at {f t : ByteArray} {xs : List ByteArray} {k : Nat} (h : k < xs.length) : (swTo f t xs k)[k]? = some (.string xs[k]) := by
  rw [swTo, List.map_append, List.getElem?_append_right (by simp; omega)]
  simp [Nat.min_eq_left (Nat.le_of_lt h), h]
theorem swTo_set {f t : ByteArray} {xs : List ByteArray} {k : Nat} (h : k < xs.length) : (swTo f t xs k).set k (.string (swp f t xs[k])) = swTo f t xs (k + 1) := by
  have hl : ((xs.take k).map (swp f t)).length = k := by simp; omega
  rw [swTo, swTo, ← List.map_set, List.set_append, if_neg (by rw [hl]; omega), hl, Nat.sub_self, List.drop_eq_getElem_cons h, List.set_cons_zero, swp_next h, List.append_assoc]
  rfl
theorem swTo_same {f t : ByteArray} {xs : List ByteArray} {k : Nat} (h : k < xs.length) (hs : swp f t xs[k] = xs[k]) : swTo f t xs k = swTo f t xs (k + 1) := by
  rw [swTo, swTo, List.drop_eq_getElem_cons h, swp_next h, hs, List.append_assoc]
  rfl
theorem swTo_zero (f t : ByteArray) (xs : List ByteArray) : swTo f t xs 0 = xs.map Value.string := by simp [swTo]
theorem swTo_all (f t : ByteArray) (xs : List ByteArray) : swTo f t xs xs.length = (xs.map (swp f t)).map Value.string := by simp [swTo]
set_option maxHeartbeats 1000000 in
theorem renamed_any (v : Value) (xs : List ByteArray) (f t : ByteArray) (w : World) (hv : RdS w v xs) (hn : xs.length ≤ 1048576) :
    Calls Tryd.prog 79 #[v, .string f, .string t] w fun e w' => ∃ r, e = .returned r ∧ New w w' ∧ w'.ownsRow w.heap.size 9 1 r xs.length ((xs.map (swp f t)).map Value.string) := by
  have HV := Lib.hid hv; clear hv
  by_cases h0 : xs.length = 0
  · have hx : xs = [] := List.eq_nil_of_length_eq_zero h0
    subst hx
    go_enter Tryd.func79, Tryd.ntmps79
    go_wp2_with fail
    refine (cloneS_any _ [] _ (Rd.new HV.out (by repeat (first | with_reducible exact New.refl _ | with_reducible assumption | with_reducible refine New.drew ?_ | with_reducible refine New.drewN ?_ _ | with_reducible refine New.alloc ?_ _ | with_reducible refine New.setCell ?_ (by first | (simp; done) | (simp; omega) | omega) _ | with_reducible refine New.trans ?_ (by with_reducible assumption)))) (by simp)).mono ?_; rintro e w1 ⟨r, rfl, b1, own1⟩
    obtain ⟨ra, rc, rfl⟩ := own_slice own1
    dsimp only [List.length_nil] at own1 ⊢
    go_wp2_with fail
    refine wp_loop_rounds 1 ?_
    rw [rounds_succ]
    go_wp2_with fail
    go_ret
    exact ⟨_, rfl, b1, by simpa using own1⟩
  · go_enter Tryd.func79, Tryd.ntmps79
    go_wp2_with fail
    refine (cloneS_any _ xs _ (Rd.new HV.out (by repeat (first | with_reducible exact New.refl _ | with_reducible assumption | with_reducible refine New.drew ?_ | with_reducible refine New.drewN ?_ _ | with_reducible refine New.alloc ?_ _ | with_reducible refine New.setCell ?_ (by first | (simp; done) | (simp; omega) | omega) _ | with_reducible refine New.trans ?_ (by with_reducible assumption)))) hn).mono ?_; rintro e w1 ⟨r, rfl, b1, own1⟩
    obtain ⟨g, cap, rfl⟩ : ∃ g cap, r = .slice (some ⟨g, 0, none⟩) xs.length cap := by
      rcases own1.2 with ⟨_, h⟩ | ⟨g, cap, cur, h, _⟩
      · exact absurd h h0
      · exact ⟨g, cap, h⟩
    have hg := (own_block_lt own1 g rfl).1
    clear h0
    go_wp2_with fail
    go_loopw [14] (fun i wr => ∃ k : Nat, k ≤ xs.length ∧ i = .int .i64 k ∧ New w wr ∧ wr.ownsRow w.heap.size 9 1 (.slice (some ⟨g, 0, none⟩) xs.length cap) xs.length (swTo f t xs k)) (fun i _ => xs.length - (intOf i).toNat)
    case atStart => exact ⟨0, Nat.zero_le _, rfl, b1, by rw [swTo_zero]; exact own1⟩
    case round =>
      obtain ⟨k, hk, rfl, hb, hown⟩ := hrel
      clear own1 b1
      by_cases hlt : k < xs.length
      · have hd : wr.cell? ⟨g, k, none⟩ = some (.string xs[k]) := by rw [hown.cellAt k (by omega)]; exact swTo_at hlt
        have hfz := hown.frozenAt k
        have HS := Lib.hid (swTo_set (f := f) (t := t) hlt)
        have HM := Lib.hid (fun h => swTo_same (f := f) (t := t) hlt h)
        generalize xs[k] = x at *
        rcases Bool.eq_false_or_eq_true (x.toList == f.toList) with g1 | g1
        · have HE := Lib.hid (show swp f t x = t by rw [swp, if_pos g1])
          go_wp2_with fail
          go_roundw
          case rel =>
            have h1 := (hown.stored k (.string t)).1
            have e1 := HS.out
            rw [HE.out] at e1
            rw [e1] at h1
            exact ⟨k + 1, by omega, by go_num, hb.setCell hg _, h1⟩
          case measure => simp [intOf]; omega
        · have HE := Lib.hid (show swp f t x = x by rw [swp, g1]; rfl)
          go_wp2_with fail
          go_roundw
          case rel => exact ⟨k + 1, by omega, by go_num, hb, by rw [← HM.out HE.out]; exact hown⟩
          case measure => simp [intOf]; omega
      · obtain rfl : k = xs.length := by omega
        go_wp2_with fail
        go_ret
        exact ⟨_, rfl, hb, by rw [swTo_all] at hown; exact hown⟩
theorem one_of_own {w : World} {base : Nat} {r : Value} {s : ByteArray} (h : w.ownsRow base 9 1 r 1 [.string s]) : ∃ g cap, r = .slice (some ⟨g, 0, none⟩) 1 cap ∧ base ≤ g ∧ g < w.heap.size ∧ w.cell? ⟨g, 0, none⟩ = some (.string s) := by
  obtain ⟨g, cap, rfl⟩ : ∃ g cap, r = .slice (some ⟨g, 0, none⟩) 1 cap := by
    rcases h.2 with ⟨_, h⟩ | ⟨g, cap, cur, h, _⟩
    · omega
    · exact ⟨g, cap, h⟩
  have hl := own_block_lt h g rfl
  refine ⟨g, cap, rfl, hl.1, hl.2, ?_⟩
  have := h.cellAt 0 (by omega)
  simpa using this
theorem rdS_one {w : World} {b : Nat} {s : ByteArray} (hb : b < w.heap.size) (hc : w.cell? ⟨b, 0, none⟩ = some (.string s)) : RdS w (.slice (some ⟨b, 0, none⟩) 1 1) [s] := by
  refine ⟨_, _, rfl, by simp, ⟨⟨(fun h => by cases h), Nat.le_refl _⟩, fun j u hu => ?_⟩⟩
  have hj : j = 0 := by
    have := (List.getElem?_eq_some_iff.1 hu).1
    simp at this; omega
  subst hj
  have : u = .string s := by simpa using hu.symm
  subst this
  exact ⟨b, 0, rfl, hb, hc⟩
def RetOne (w : World) (s : ByteArray) (e : Ending) (w' : World) : Prop := ∃ g cap, e = .returned (.slice (some ⟨g, 0, none⟩) 1 cap) ∧ New w w' ∧ w.heap.size ≤ g ∧ g < w'.heap.size ∧ w'.cell? ⟨g, 0, none⟩ = some (.string s)
theorem sSwap1_any (b : Nat) (s f t : ByteArray) (w : World) (hb : b < w.heap.size) (hc : w.cell? ⟨b, 0, none⟩ = some (.string s)) :
    Calls Tryd.prog 41 #[.slice (some ⟨b, 0, none⟩) 1 1, .string f, .string t] w (RetOne w (swp f t s)) :=
  (sSwap_any _ [s] f t w (rdS_one hb hc) (by simp)).mono fun e w' ⟨r, he, hn, ho⟩ => by
    obtain ⟨g, cap, rfl, h1, h2, h3⟩ := one_of_own ho
    exact ⟨g, cap, he, hn, h1, h2, h3⟩
theorem renamed1_any (b : Nat) (s f t : ByteArray) (w : World) (hb : b < w.heap.size) (hc : w.cell? ⟨b, 0, none⟩ = some (.string s)) :
    Calls Tryd.prog 79 #[.slice (some ⟨b, 0, none⟩) 1 1, .string f, .string t] w (RetOne w (swp f t s)) :=
  (renamed_any _ [s] f t w (rdS_one hb hc) (by simp)).mono fun e w' ⟨r, he, hn, ho⟩ => by
    obtain ⟨g, cap, rfl, h1, h2, h3⟩ := one_of_own ho
    exact ⟨g, cap, he, hn, h1, h2, h3⟩
end Go.Proofs.YtadoocadohdfcaaDoor

namespace Go.Proofs.YtadoocadohdfcaaDoor
open Go Go.Proofs Go.RowKit
set_option linter.unusedVariables false
set_option linter.unusedSimpArgs false
def renT (f t : ByteArray) (x : ETerm) : ETerm := ⟨x.kind, swp f t x.name, x.num⟩
def renL (f t : ByteArray) (l : LineD) : LineD := ⟨swp f t l.target, l.terms.map (renT f t)⟩
def renP (f t : ByteArray) (p : ProgD) : ProgD := ⟨p.name, p.inputs.map (swp f t), p.vars.map (swp f t), p.outputs.map (swp f t), swp f t p.guard, p.lines.map (renL f t)⟩
def noP : ProgD := ⟨⟨#[]⟩, [], [], [], ⟨#[]⟩, []⟩
def renCode (p : ProgD) (f t : ByteArray) : Int :=
  if codeR p = 0 then (if memS (allP p) f = true then (if isNameB t = true ∧ ((t.toList == f.toList) = true ∨ memS (allP p) t = false) then 0 else 2) else 4) else codeR p
def renR (p : ProgD) (f t : ByteArray) : ProgD × Int := if renCode p f t = 0 then (renP f t p, 0) else (noP, renCode p f t)
theorem renCode_1 {p : ProgD} {f t : ByteArray} (h : codeR p ≠ 0) : renR p f t = (noP, codeR p) := by
  have : renCode p f t = codeR p := by rw [renCode, if_neg h]
  rw [renR, this, if_neg h]
theorem renCode_4 {p : ProgD} {f t : ByteArray} (h : codeR p = 0) (h2 : memS (allP p) f = false) : renR p f t = (noP, 4) := by
  have : renCode p f t = 4 := by rw [renCode, if_pos h, h2, if_neg (by simp)]
  rw [renR, this, if_neg (by decide)]
theorem renCode_2 {p : ProgD} {f t : ByteArray} (h : codeR p = 0) (h2 : memS (allP p) f = true) (h3 : ¬ (isNameB t = true ∧ ((t.toList == f.toList) = true ∨ memS (allP p) t = false))) : renR p f t = (noP, 2) := by
  have : renCode p f t = 2 := by rw [renCode, if_pos h, if_pos h2, if_neg h3]
  rw [renR, this, if_neg (by decide)]
theorem renCode_0 {p : ProgD} {f t : ByteArray} (h : codeR p = 0) (h2 : memS (allP p) f = true) (h3 : isNameB t = true ∧ ((t.toList == f.toList) = true ∨ memS (allP p) t = false)) : renR p f t = (renP f t p, 0) := by
  have : renCode p f t = 0 := by rw [renCode, if_pos h, if_pos h2, if_pos h3]
  rw [renR, if_pos this]
theorem swp_fit {f t s : ByteArray} (ht : fitS t) (hs : fitS s) : fitS (swp f t s) := by rw [swp]; split; exact ht; exact hs
theorem renL_fit {f t : ByteArray} {l : LineD} (ht : fitS t) (h : fitLn l) : fitLn (renL f t l) := by
  obtain ⟨h1, h2, h3⟩ := h
  refine ⟨swp_fit ht h1, fun x hx => ?_, by rw [renL]; simpa using h3⟩
  obtain ⟨y, hy, rfl⟩ := List.mem_map.1 hx
  exact swp_fit ht (h2 y hy)
theorem renP_fit {f t : ByteArray} {p : ProgD} (ht : fitS t) (h : FitP p) : FitP (renP f t p) := by
  refine ⟨h.name, ?_, ?_, ?_, ?_, ?_, ?_, swp_fit ht h.guard, ?_, ?_⟩
  · intro x hx; obtain ⟨y, hy, rfl⟩ := List.mem_map.1 hx; exact swp_fit ht (h.ins y hy)
  · simpa [renP] using h.insl
  · intro x hx; obtain ⟨y, hy, rfl⟩ := List.mem_map.1 hx; exact swp_fit ht (h.vars y hy)
  · simpa [renP] using h.varsl
  · intro x hx; obtain ⟨y, hy, rfl⟩ := List.mem_map.1 hx; exact swp_fit ht (h.outs y hy)
  · simpa [renP] using h.outsl
  · intro x hx; obtain ⟨y, hy, rfl⟩ := List.mem_map.1 hx; exact renL_fit ht (h.lines y hy)
  · simpa [renP] using h.linesl
theorem noP_fit : FitP noP := ⟨(show (0 : Nat) ≤ 1048576 by omega), by simp [noP], by simp [noP], by simp [noP], by simp [noP], by simp [noP], by simp [noP], (show (0 : Nat) ≤ 1048576 by omega), by simp [noP], by simp [noP]⟩
theorem cntL_ren (f t : ByteArray) : ∀ ls : List LineD, cntL (ls.map (renL f t)) = cntL ls
  | [] => rfl
  | l :: ls => by rw [List.map_cons, cntL, cntL, cntL_ren f t ls]; simp [renL]
theorem cntPr_ren (f t : ByteArray) (p : ProgD) : cntPr (renP f t p) = cntPr p := by
  rw [cntPr, cntPr, renP]; simp [cntL_ren]
theorem renR_fit {f t : ByteArray} {p : ProgD} (ht : fitS t) (h : FitP p) : FitP (renR p f t).1 := by
  rw [renR]; split; exact renP_fit ht h; exact noP_fit
theorem renR_cnt {f t : ByteArray} {p : ProgD} (h : cntPr p ≤ 8388608) : cntPr (renR p f t).1 ≤ 8388608 := by
  rw [renR]; split
  · dsimp only; rw [cntPr_ren]; exact h
  · simp [noP, cntPr, cntL]
end Go.Proofs.YtadoocadohdfcaaDoor
