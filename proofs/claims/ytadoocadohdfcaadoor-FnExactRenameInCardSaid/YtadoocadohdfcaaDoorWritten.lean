/- Contracts: is a program written. -/
import Derived.Test.YtadoocadohdfcaaDoorProg
import Derived.Test.YtadoocadohdfcaaDoorFuncS
import Derived.Test.YtadoocadohdfcaaDoorFuncLn
import Derived.Test.YtadoocadohdfcaaDoorConcat
import Derived.Test.YtadoocadohdfcaaDoorLangS
import Derived.Test.YtadoocadohdfcaaDoorNames
import Derived.Test.YtadoocadohdfcaaDoorHeights
import Derived.Test.YtadoocadohdfcaaDoorNum
namespace Go.Proofs.YtadoocadohdfcaaDoor
open Go Go.Proofs Go.RowKit
set_option linter.unusedVariables false
set_option linter.unusedSimpArgs false
set_option maxRecDepth 100000
def namesB (l : List ByteArray) (low : Int) : Bool := l.all isNameB && inB l.length low 20
def lineB (l : LineD) : Bool := isNameB l.target && okH l.terms
def guardB (s : ByteArray) : Bool := s.toList.isEmpty || isNameB s
def headB (p : ProgD) : Bool := isNameB p.name && namesB p.inputs 1 && namesB p.vars 0 && namesB p.outputs 1 && guardB p.guard
def wB (p : ProgD) : Bool := headB p && (p.lines.all lineB && inB p.lines.length 1 40)
def sizedB (p : ProgD) : Bool := decide (p.inputs.length ≤ 20) && decide (p.vars.length ≤ 20) && decide (p.outputs.length ≤ 20) && decide (p.lines.length ≤ 40) && !(p.lines.any fun l => decide (40 < l.terms.length))
def wI (p : ProgD) : Bool := isNameB p.name && (p.inputs ++ p.vars ++ p.outputs).all isNameB && guardB p.guard && decide (0 < p.inputs.length) && decide (0 < p.outputs.length) && decide (0 < p.lines.length) && sizedB p && !(p.lines.any fun l => !lineB l)
theorem okH_len {ts : List ETerm} (h : okH ts = true) : ts.length ≤ 40 := by
  rw [okH_one] at h; simp at h; exact h.2
theorem wI_wB (p : ProgD) : wI p = wB p := by
  rw [Bool.eq_iff_iff]
  simp only [wI, wB, headB, namesB, sizedB, inB, Bool.and_eq_true, decide_eq_true_eq, List.all_append, Bool.not_eq_true', List.any_eq_false, List.all_eq_true, Bool.not_eq_false']
  constructor
  · rintro ⟨⟨⟨⟨⟨⟨⟨h1, ⟨h2, h3⟩, h4⟩, h5⟩, h6⟩, h7⟩, h8⟩, ⟨⟨⟨⟨h9, h10⟩, h11⟩, h12⟩, h13⟩⟩, h14⟩
    simp_all
    omega
  · rintro ⟨⟨⟨⟨⟨h1, h2, h2'⟩, h3, h3'⟩, h4, h4'⟩, h5⟩, h6, h7⟩
    simp_all
    refine ⟨⟨⟨by omega, by omega⟩, by omega⟩, ⟨⟨⟨by omega, by omega⟩, by omega⟩, by omega⟩, fun l hl => ?_⟩
    have := h6 l hl; simp [lineB] at this; exact okH_len this.2
theorem iAreNames1_any (s : ByteArray) (w : World) (hs : s.size ≤ 1048576) (hk : KW w) : Calls Tryd.prog 120 #[.string s] w fun e w' => e = .returned (.bool (!isNameB s)) ∧ New w w' := by
  have HK := Lib.hid hk; clear hk
  go_enter Tryd.func120, Tryd.ntmps120
  go_wp2_with (first | (go_at_call 47; refine (iIsName_any s _ hs HK.out).mono ?_; rintro e _ ⟨rfl, rfl⟩))
  go_ret
  exact ⟨rfl, New.refl _⟩
theorem iAreNames_any (v : Value) (xs : List ByteArray) (w : World) (hv : RdS w v xs) (hs : ∀ x ∈ xs, fitS x) (hk : KW w) : Calls Tryd.prog 87 #[v] w fun e w' => e = .returned (.bool (xs.all isNameB)) ∧ New w w' := by
  have HK := Lib.hid hk; clear hk
  have HV := Lib.hid hv; clear hv
  have hE : xs.all isNameB = !(xs.any fun x => !isNameB x) := by rw [List.not_any_eq_all_not]; simp
  rw [hE]
  go_enter Tryd.func87, Tryd.ntmps87
  go_wp2_with fail
  refine (containsFuncS_any 120 #[] (fun x => !isNameB x) v xs _ HV.out (fun _ _ => rfl) (fun x w1 hx n => iAreNames1_any x w1 (hs x hx) (HK.out.new n))).mono ?_
  rintro e w2 ⟨rfl, b2⟩
  go_wp2_with fail
  go_ret
  exact ⟨rfl, b2⟩
theorem iIsLine_any (l : LineD) (tv : Value) (w : World) (ht : Rd w tv l.terms.length (l.terms.flatMap encTerm)) (hf : fitLn l) (hk : KW w) : Calls Tryd.prog 91 #[.agg #[.string l.target, tv]] w fun e w' => e = .returned (.bool (lineB l)) ∧ New w w' := by
  have HK := Lib.hid hk; clear hk
  have HT := Lib.hid ht; clear ht
  rcases Bool.eq_false_or_eq_true (isNameB l.target) with h1 | h1
  · go_enter Tryd.func91, Tryd.ntmps91
    go_wp2_with fail
    refine (iIsName_any l.target _ hf.1 (HK.out.new (by repeat (first | with_reducible exact New.refl _ | with_reducible assumption | with_reducible refine New.drew ?_ | with_reducible refine New.drewN ?_ _ | with_reducible refine New.alloc ?_ _ | with_reducible refine New.setCell ?_ (by first | (simp; done) | (simp; omega) | omega) _ | with_reducible refine New.trans ?_ (by with_reducible assumption))))).mono ?_; rintro e w1 ⟨rfl, rfl⟩
    go_wp2_with fail
    refine (iIsExpression_any tv l.terms _ (HT.out.new (by repeat (first | with_reducible exact New.refl _ | with_reducible assumption | with_reducible refine New.drew ?_ | with_reducible refine New.drewN ?_ _ | with_reducible refine New.alloc ?_ _ | with_reducible refine New.setCell ?_ (by first | (simp; done) | (simp; omega) | omega) _ | with_reducible refine New.trans ?_ (by with_reducible assumption)))) hf.2.1 hf.2.2 (HK.out.new (by repeat (first | with_reducible exact New.refl _ | with_reducible assumption | with_reducible refine New.drew ?_ | with_reducible refine New.drewN ?_ _ | with_reducible refine New.alloc ?_ _ | with_reducible refine New.setCell ?_ (by first | (simp; done) | (simp; omega) | omega) _ | with_reducible refine New.trans ?_ (by with_reducible assumption))))).mono ?_; rintro e w2 ⟨rfl, b2⟩
    try with_reducible replace b2 := New.undrawN b2
    try with_reducible replace b2 := New.undraw b2
    obtain ⟨c2, f2⟩ := b2.rules
    have z2 := b2.size
    try simp only [World.size_alloc, World.size_drew, World.heap_drewN, World.size_setCell] at z2
    go_wp2_with fail
    go_ret
    exact ⟨ret_bool (by rw [lineB, h1, Bool.true_and]), (by repeat (first | with_reducible exact New.refl _ | with_reducible assumption | with_reducible refine New.drew ?_ | with_reducible refine New.drewN ?_ _ | with_reducible refine New.alloc ?_ _ | with_reducible refine New.setCell ?_ (by first | (simp; done) | (simp; omega) | omega) _ | with_reducible refine New.trans ?_ (by with_reducible assumption)))⟩
  · go_enter Tryd.func91, Tryd.ntmps91
    go_wp2_with fail
    refine (iIsName_any l.target _ hf.1 (HK.out.new (by repeat (first | with_reducible exact New.refl _ | with_reducible assumption | with_reducible refine New.drew ?_ | with_reducible refine New.drewN ?_ _ | with_reducible refine New.alloc ?_ _ | with_reducible refine New.setCell ?_ (by first | (simp; done) | (simp; omega) | omega) _ | with_reducible refine New.trans ?_ (by with_reducible assumption))))).mono ?_; rintro e w1 ⟨rfl, rfl⟩
    go_wp2_with fail
    go_ret
    exact ⟨ret_bool (by rw [lineB, h1, Bool.false_and]), (by repeat (first | with_reducible exact New.refl _ | with_reducible assumption | with_reducible refine New.drew ?_ | with_reducible refine New.drewN ?_ _ | with_reducible refine New.alloc ?_ _ | with_reducible refine New.setCell ?_ (by first | (simp; done) | (simp; omega) | omega) _ | with_reducible refine New.trans ?_ (by with_reducible assumption)))⟩
theorem iIsWritten1_any (l : LineD) (tv : Value) (w : World) (ht : Rd w tv l.terms.length (l.terms.flatMap encTerm)) (hf : fitLn l) (hk : KW w) : Calls Tryd.prog 90 #[.agg #[.string l.target, tv]] w fun e w' => e = .returned (.bool (!lineB l)) ∧ New w w' := by
  have HK := Lib.hid hk; clear hk
  have HT := Lib.hid ht; clear ht
  go_enter Tryd.func90, Tryd.ntmps90
  go_wp2_with fail
  refine (iIsLine_any l tv _ (HT.out.new (by repeat (first | with_reducible exact New.refl _ | with_reducible assumption | with_reducible refine New.drew ?_ | with_reducible refine New.drewN ?_ _ | with_reducible refine New.alloc ?_ _ | with_reducible refine New.setCell ?_ (by first | (simp; done) | (simp; omega) | omega) _ | with_reducible refine New.trans ?_ (by with_reducible assumption)))) hf (HK.out.new (by repeat (first | with_reducible exact New.refl _ | with_reducible assumption | with_reducible refine New.drew ?_ | with_reducible refine New.drewN ?_ _ | with_reducible refine New.alloc ?_ _ | with_reducible refine New.setCell ?_ (by first | (simp; done) | (simp; omega) | omega) _ | with_reducible refine New.trans ?_ (by with_reducible assumption))))).mono ?_; rintro e w1 ⟨rfl, b1⟩
  try with_reducible replace b1 := New.undrawN b1
  try with_reducible replace b1 := New.undraw b1
  obtain ⟨c1, f1⟩ := b1.rules
  have z1 := b1.size
  try simp only [World.size_alloc, World.size_drew, World.heap_drewN, World.size_setCell] at z1
  go_wp2_with fail
  go_ret
  exact ⟨rfl, (by repeat (first | with_reducible exact New.refl _ | with_reducible assumption | with_reducible refine New.drew ?_ | with_reducible refine New.drewN ?_ _ | with_reducible refine New.alloc ?_ _ | with_reducible refine New.setCell ?_ (by first | (simp; done) | (simp; omega) | omega) _ | with_reducible refine New.trans ?_ (by with_reducible assumption)))⟩
theorem iIsSized1_any (l : LineD) (tv : Value) (w : World) (ht : Rd w tv l.terms.length (l.terms.flatMap encTerm)) : Calls Tryd.prog 121 #[.agg #[.string l.target, tv]] w fun e w' => e = .returned (.bool (decide (40 < l.terms.length))) ∧ New w w' := by
  obtain ⟨a, cap, rfl, _⟩ := ht
  go_enter Tryd.func121, Tryd.ntmps121
  go_wp2_with fail
  go_ret
  exact ⟨ret_bool (by rw [Bool.eq_iff_iff]; simp; omega), (by repeat (first | with_reducible exact New.refl _ | with_reducible assumption | with_reducible refine New.drew ?_ | with_reducible refine New.drewN ?_ _ | with_reducible refine New.alloc ?_ _ | with_reducible refine New.setCell ?_ (by first | (simp; done) | (simp; omega) | omega) _ | with_reducible refine New.trans ?_ (by with_reducible assumption)))⟩
theorem iIsSized_any (p : ProgD) (iv vv ov lv : Value) (w : World) (hp : RdP w p iv vv ov lv) : Calls Tryd.prog 88 #[valP p iv vv ov lv] w fun e w' => e = .returned (.bool (sizedB p)) ∧ New w w' := by
  obtain ⟨hi, hv, ho, hl⟩ := hp
  obtain ⟨ia, ic, rfl, _⟩ := id hi
  obtain ⟨va, vc, rfl, _⟩ := id hv
  obtain ⟨oa, oc, rfl, _⟩ := id ho
  obtain ⟨la, lc, rfl⟩ := hl.slice
  have HL := Lib.hid hl; clear hl hi hv ho
  rcases Bool.eq_false_or_eq_true (decide ((p.inputs.length : Int) ≤ 20)) with h1 | h1
  · skip
    rcases Bool.eq_false_or_eq_true (decide ((p.vars.length : Int) ≤ 20)) with h2 | h2
    · skip
      rcases Bool.eq_false_or_eq_true (decide ((p.outputs.length : Int) ≤ 20)) with h3 | h3
      · skip
        rcases Bool.eq_false_or_eq_true (decide ((p.lines.length : Int) ≤ 40)) with h4 | h4
        · skip
          go_enter Tryd.func88, Tryd.ntmps88
          go_wp2_with fail
          refine (containsFuncLn_any 121 #[] (fun l => decide (40 < l.terms.length)) _ p.lines _ (HL.out.new (by repeat (first | with_reducible exact New.refl _ | with_reducible assumption | with_reducible refine New.drew ?_ | with_reducible refine New.drewN ?_ _ | with_reducible refine New.alloc ?_ _ | with_reducible refine New.setCell ?_ (by first | (simp; done) | (simp; omega) | omega) _ | with_reducible refine New.trans ?_ (by with_reducible assumption)))) (fun _ _ => rfl) (fun x tv w1 hx n hr => iIsSized1_any x tv w1 hr)).mono ?_; rintro e w2 ⟨rfl, b2⟩
          obtain ⟨c2, f2⟩ := b2.rules
          go_wp2_with fail
          go_ret
          refine ⟨ret_bool ?_, (by repeat (first | with_reducible exact New.refl _ | with_reducible assumption | with_reducible refine New.drew ?_ | with_reducible refine New.drewN ?_ _ | with_reducible refine New.alloc ?_ _ | with_reducible refine New.setCell ?_ (by first | (simp; done) | (simp; omega) | omega) _ | with_reducible refine New.trans ?_ (by with_reducible assumption)))⟩
          simp only [decide_eq_true_eq] at h1 h2 h3 h4; rw [sizedB, decide_eq_true (show p.inputs.length ≤ 20 by omega), decide_eq_true (show p.vars.length ≤ 20 by omega), decide_eq_true (show p.outputs.length ≤ 20 by omega), decide_eq_true (show p.lines.length ≤ 40 by omega)]; simp
        · skip
          go_enter Tryd.func88, Tryd.ntmps88
          go_wp2_with fail
          go_ret
          refine ⟨ret_bool ?_, (by repeat (first | with_reducible exact New.refl _ | with_reducible assumption | with_reducible refine New.drew ?_ | with_reducible refine New.drewN ?_ _ | with_reducible refine New.alloc ?_ _ | with_reducible refine New.setCell ?_ (by first | (simp; done) | (simp; omega) | omega) _ | with_reducible refine New.trans ?_ (by with_reducible assumption)))⟩; symm; rw [sizedB]; simp only [Bool.and_eq_false_iff, decide_eq_false_iff_not] at *; omega
      · skip
        go_enter Tryd.func88, Tryd.ntmps88
        go_wp2_with fail
        go_ret
        refine ⟨ret_bool ?_, (by repeat (first | with_reducible exact New.refl _ | with_reducible assumption | with_reducible refine New.drew ?_ | with_reducible refine New.drewN ?_ _ | with_reducible refine New.alloc ?_ _ | with_reducible refine New.setCell ?_ (by first | (simp; done) | (simp; omega) | omega) _ | with_reducible refine New.trans ?_ (by with_reducible assumption)))⟩; symm; rw [sizedB]; simp only [Bool.and_eq_false_iff, decide_eq_false_iff_not] at *; omega
    · skip
      go_enter Tryd.func88, Tryd.ntmps88
      go_wp2_with fail
      go_ret
      refine ⟨ret_bool ?_, (by repeat (first | with_reducible exact New.refl _ | with_reducible assumption | with_reducible refine New.drew ?_ | with_reducible refine New.drewN ?_ _ | with_reducible refine New.alloc ?_ _ | with_reducible refine New.setCell ?_ (by first | (simp; done) | (simp; omega) | omega) _ | with_reducible refine New.trans ?_ (by with_reducible assumption)))⟩; symm; rw [sizedB]; simp only [Bool.and_eq_false_iff, decide_eq_false_iff_not] at *; omega
  · skip
    go_enter Tryd.func88, Tryd.ntmps88
    go_wp2_with fail
    go_ret
    refine ⟨ret_bool ?_, (by repeat (first | with_reducible exact New.refl _ | with_reducible assumption | with_reducible refine New.drew ?_ | with_reducible refine New.drewN ?_ _ | with_reducible refine New.alloc ?_ _ | with_reducible refine New.setCell ?_ (by first | (simp; done) | (simp; omega) | omega) _ | with_reducible refine New.trans ?_ (by with_reducible assumption)))⟩; symm; rw [sizedB]; simp only [Bool.and_eq_false_iff, decide_eq_false_iff_not] at *; omega
set_option maxHeartbeats 800000 in
theorem sNames_any (v : Value) (xs : List ByteArray) (low : Int) (w : World) (hv : RdS w v xs) (hs : ∀ x ∈ xs, fitS x) : Calls Tryd.prog 94 #[v, .int .i64 low] w fun e w' => e = .returned (.bool (namesB xs low)) ∧ New w w' := by
  obtain ⟨a, cap, rfl, hm, HC⟩ := hv.open
  clear hv
  have HS := Lib.hid hs; clear hs
  go_enter Tryd.func94, Tryd.ntmps94
  go_wp2_with fail
  go_loopw [5] (fun i wr => ∃ k : Nat, k ≤ xs.length ∧ i = .int .i64 k ∧ Hid ((xs.take k).all isNameB = true) ∧ New w wr) (fun i _ => xs.length - (intOf i).toNat)
  case atStart => exact ⟨0, Nat.zero_le _, rfl, Lib.hid rfl, New.refl _⟩
  case round =>
    obtain ⟨k, hk, rfl, hpre, hb⟩ := hrel
    by_cases hlt : k < xs.length
    · obtain ⟨b, off, rfl, hbl, hx⟩ := HC.out wr hb k hlt
      have HT := Lib.hid (show (xs.take (k + 1)).all isNameB = ((xs.take k).all isNameB && isNameB xs[k]) by rw [List.take_succ_eq_append_getElem hlt, List.all_append]; simp)
      have hfit : xs[k].size ≤ 1048576 := HS.out _ (List.getElem_mem hlt)
      rcases Bool.eq_false_or_eq_true (isNameB xs[k]) with h1 | h1
      · go_wp2_with fail
        refine (sName_any _ _ hfit).mono ?_; rintro e w2 ⟨rfl, b2⟩
        try with_reducible replace b2 := New.undrawN b2
        try with_reducible replace b2 := New.undraw b2
        obtain ⟨c2, f2⟩ := b2.rules
        have z2 := b2.size
        try simp only [World.size_alloc, World.size_drew, World.heap_drewN, World.size_setCell] at z2
        go_wp2_with fail
        go_roundw
        case rel => exact ⟨k + 1, by omega, by go_num, Lib.hid (by rw [HT.out, hpre.out, h1]; rfl), hb.trans b2⟩
        case measure => simp [intOf]; omega
      · go_wp2_with fail
        refine (sName_any _ _ hfit).mono ?_; rintro e w2 ⟨rfl, b2⟩
        try with_reducible replace b2 := New.undrawN b2
        try with_reducible replace b2 := New.undraw b2
        obtain ⟨c2, f2⟩ := b2.rules
        have z2 := b2.size
        try simp only [World.size_alloc, World.size_drew, World.heap_drewN, World.size_setCell] at z2
        go_wp2_with fail
        go_ret
        refine ⟨ret_bool ?_, hb.trans b2⟩
        symm
        rw [namesB, Bool.and_eq_false_iff]
        left
        rw [List.all_eq_false]
        exact ⟨xs[k], List.getElem_mem hlt, by simp [h1]⟩
    · obtain rfl : k = xs.length := by omega
      go_wp2_with (first | (go_at_call 96; refine (l01In_any _ _ _ _).mono ?_; rintro e _ ⟨rfl, rfl⟩))
      go_ret
      exact ⟨ret_bool (by rw [namesB]; have := hpre.out; rw [List.take_length] at this; rw [this, Bool.true_and]), hb⟩
end Go.Proofs.YtadoocadohdfcaaDoor
