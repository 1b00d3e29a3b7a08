/- Contracts: is a program written. -/
import Derived.Test.YteielmihlfakgaaGreatDoorProg
import Derived.Test.YteielmihlfakgaaGreatDoorVC
import Derived.Test.YteielmihlfakgaaGreatDoorVB
namespace Go.Proofs.YteielmihlfakgaaGreatDoor
open Go Go.Proofs Go.RowKit
set_option linter.unusedVariables false
set_option linter.unusedSimpArgs false
set_option maxRecDepth 100000
def namesB (l : List ByteArray) (low : Int) : Bool := l.all isNameB && inB l.length low 20
def lineB (l : LineD) : Bool := isNameB l.target && okH l.terms
def guardB (s : ByteArray) : Bool := s.toList.isEmpty || isNameB s
def headB (p : ProgD) : Bool := isNameB p.name && namesB p.inputs 1 && namesB p.vars 0 && namesB p.outputs 1 && guardB p.guard
def wB (p : ProgD) : Bool := headB p && (p.lines.all lineB && inB p.lines.length 1 40)
def sizedB (p : ProgD) : Bool := decide (p.inputs.length ≤ 20) && decide (p.vars.length ≤ 20) && decide (p.outputs.length ≤ 20) && decide (p.lines.length ≤ 40) && !(p.lines.any fun l => decide (40 < l.terms.length))
def wI (p : ProgD) : Bool := isNameB p.name && (p.inputs ++ p.vars ++ p.outputs).all isNameB && guardB p.guard && decide (0 < p.inputs.length) && decide (0 < p.outputs.length) && decide (0 < p.lines.length) && sizedB p && !(p.lines.any fun l => !lineB l)
theorem okH_len {ts : List ETerm} (h : okH ts = true) : ts.length ≤ 40 := by
  rw [okH_one] at h; simp at h; exact h.2
theorem wI_wB (p : ProgD) : wI p = wB p := by
  rw [Bool.eq_iff_iff]
  simp only [wI, wB, headB, namesB, sizedB, inB, Bool.and_eq_true, decide_eq_true_eq, List.all_append, Bool.not_eq_true', List.any_eq_false, List.all_eq_true, Bool.not_eq_false']
  constructor
  · rintro ⟨⟨⟨⟨⟨⟨⟨h1, ⟨h2, h3⟩, h4⟩, h5⟩, h6⟩, h7⟩, h8⟩, ⟨⟨⟨⟨h9, h10⟩, h11⟩, h12⟩, h13⟩⟩, h14⟩
    simp_all
    omega
  · rintro ⟨⟨⟨⟨⟨h1, h2, h2'⟩, h3, h3'⟩, h4, h4'⟩, h5⟩, h6, h7⟩
    simp_all
    refine ⟨⟨⟨by omega, by omega⟩, by omega⟩, ⟨⟨⟨by omega, by omega⟩, by omega⟩, by omega⟩, fun l hl => ?_⟩
    have := h6 l hl; simp [lineB] at this; exact okH_len this.2
theorem iAreNames1_any (s : ByteArray) (w : World) (hs : s.size ≤ 1048576) (hk : KW w) : Calls Tryz.prog 136 #[.string s] w fun e w' => e = .returned (.bool (!isNameB s)) ∧ New w w' := by
  have HK := Lib.hid hk; clear hk
  go_enter Tryz.func136, Tryz.ntmps136
  go_wp2_with (first | (go_at_call 94; refine (iIsName_any s _ hs HK.out).mono ?_; rintro e _ ⟨rfl, rfl⟩))
  go_ret
  exact ⟨rfl, New.refl _⟩
theorem iAreNames_any (v : Value) (xs : List ByteArray) (w : World) (hv : RdS w v xs) (hs : ∀ x ∈ xs, fitS x) (hk : KW w) : Calls Tryz.prog 95 #[v] w fun e w' => e = .returned (.bool (xs.all isNameB)) ∧ New w w' := by
  have HK := Lib.hid hk; clear hk
  have HV := Lib.hid hv; clear hv
  have hE : xs.all isNameB = !(xs.any fun x => !isNameB x) := by rw [List.not_any_eq_all_not]; simp
  rw [hE]
  go_enter Tryz.func95, Tryz.ntmps95
  go_wp2_with fail
  refine (containsFuncS_any 136 #[] (fun x => !isNameB x) v xs _ HV.out (fun _ _ => rfl) (fun x w1 hx n => iAreNames1_any x w1 (hs x hx) (HK.out.new n))).mono ?_
  rintro e w2 ⟨rfl, b2⟩
  go_wp2_with fail
  go_ret
  exact ⟨rfl, b2⟩
theorem iIsLine_any (l : LineD) (tv : Value) (w : World) (ht : Rd w tv l.terms.length (l.terms.flatMap encTerm)) (hf : fitLn l) (hk : KW w) : Calls Tryz.prog 100 #[.agg #[.string l.target, tv]] w fun e w' => e = .returned (.bool (lineB l)) ∧ New w w' := by
  have HK := Lib.hid hk; clear hk
  have HT := Lib.hid ht; clear ht
  rcases Bool.eq_false_or_eq_true (isNameB l.target) with h1 | h1
  · go_enter Tryz.func100, Tryz.ntmps100
    go_wp2_with fail
    refine (iIsName_any l.target _ hf.1 (HK.out.new (by repeat (first | with_reducible exact New.refl _ | with_reducible assumption | with_reducible refine New.drew ?_ | with_reducible refine New.drewN ?_ _ | with_reducible refine New.alloc ?_ _ | with_reducible refine New.setCell ?_ (by first | (simp; done) | (simp; omega) | omega) _ | with_reducible refine New.trans ?_ (by with_reducible assumption))))).mono ?_; rintro e w1 ⟨rfl, rfl⟩
    go_wp2_with fail
    refine (iIsExpression_any tv l.terms _ (HT.out.new (by repeat (first | with_reducible exact New.refl _ | with_reducible assumption | with_reducible refine New.drew ?_ | with_reducible refine New.drewN ?_ _ | with_reducible refine New.alloc ?_ _ | with_reducible refine New.setCell ?_ (by first | (simp; done) | (simp; omega) | omega) _ | with_reducible refine New.trans ?_ (by with_reducible assumption)))) hf.2.1 hf.2.2 (HK.out.new (by repeat (first | with_reducible exact New.refl _ | with_reducible assumption | with_reducible refine New.drew ?_ | with_reducible refine New.drewN ?_ _ | with_reducible refine New.alloc ?_ _ | with_reducible refine New.setCell ?_ (by first | (simp; done) | (simp; omega) | omega) _ | with_reducible refine New.trans ?_ (by with_reducible assumption))))).mono ?_; rintro e w2 ⟨rfl, b2⟩
    try with_reducible replace b2 := New.undrawN b2
    try with_reducible replace b2 := New.undraw b2
    obtain ⟨c2, f2⟩ := b2.rules
    have z2 := b2.size
    try simp only [World.size_alloc, World.size_drew, World.heap_drewN, World.size_setCell] at z2
    go_wp2_with fail
    go_ret
    exact ⟨ret_bool (by rw [lineB, h1, Bool.true_and]), (by repeat (first | with_reducible exact New.refl _ | with_reducible assumption | with_reducible refine New.drew ?_ | with_reducible refine New.drewN ?_ _ | with_reducible refine New.alloc ?_ _ | with_reducible refine New.setCell ?_ (by first | (simp; done) | (simp; omega) | omega) _ | with_reducible refine New.trans ?_ (by with_reducible assumption)))⟩
  · go_enter Tryz.func100, Tryz.ntmps100
    go_wp2_with fail
    refine (iIsName_any l.target _ hf.1 (HK.out.new (by repeat (first | with_reducible exact New.refl _ | with_reducible assumption | with_reducible refine New.drew ?_ | with_reducible refine New.drewN ?_ _ | with_reducible refine New.alloc ?_ _ | with_reducible refine New.setCell ?_ (by first | (simp; done) | (simp; omega) | omega) _ | with_reducible refine New.trans ?_ (by with_reducible assumption))))).mono ?_; rintro e w1 ⟨rfl, rfl⟩
    go_wp2_with fail
    go_ret
    exact ⟨ret_bool (by rw [lineB, h1, Bool.false_and]), (by repeat (first | with_reducible exact New.refl _ | with_reducible assumption | with_reducible refine New.drew ?_ | with_reducible refine New.drewN ?_ _ | with_reducible refine New.alloc ?_ _ | with_reducible refine New.setCell ?_ (by first | (simp; done) | (simp; omega) | omega) _ | with_reducible refine New.trans ?_ (by with_reducible assumption)))⟩
theorem iIsWritten1_any (l : LineD) (tv : Value) (w : World) (ht : Rd w tv l.terms.length (l.terms.flatMap encTerm)) (hf : fitLn l) (hk : KW w) : Calls Tryz.prog 99 #[.agg #[.string l.target, tv]] w fun e w' => e = .returned (.bool (!lineB l)) ∧ New w w' := by
  have HK := Lib.hid hk; clear hk
  have HT := Lib.hid ht; clear ht
  go_enter Tryz.func99, Tryz.ntmps99
  go_wp2_with fail
  refine (iIsLine_any l tv _ (HT.out.new (by repeat (first | with_reducible exact New.refl _ | with_reducible assumption | with_reducible refine New.drew ?_ | with_reducible refine New.drewN ?_ _ | with_reducible refine New.alloc ?_ _ | with_reducible refine New.setCell ?_ (by first | (simp; done) | (simp; omega) | omega) _ | with_reducible refine New.trans ?_ (by with_reducible assumption)))) hf (HK.out.new (by repeat (first | with_reducible exact New.refl _ | with_reducible assumption | with_reducible refine New.drew ?_ | with_reducible refine New.drewN ?_ _ | with_reducible refine New.alloc ?_ _ | with_reducible refine New.setCell ?_ (by first | (simp; done) | (simp; omega) | omega) _ | with_reducible refine New.trans ?_ (by with_reducible assumption))))).mono ?_; rintro e w1 ⟨rfl, b1⟩
  try with_reducible replace b1 := New.undrawN b1
  try with_reducible replace b1 := New.undraw b1
  obtain ⟨c1, f1⟩ := b1.rules
  have z1 := b1.size
  try simp only [World.size_alloc, World.size_drew, World.heap_drewN, World.size_setCell] at z1
  go_wp2_with fail
  go_ret
  exact ⟨rfl, (by repeat (first | with_reducible exact New.refl _ | with_reducible assumption | with_reducible refine New.drew ?_ | with_reducible refine New.drewN ?_ _ | with_reducible refine New.alloc ?_ _ | with_reducible refine New.setCell ?_ (by first | (simp; done) | (simp; omega) | omega) _ | with_reducible refine New.trans ?_ (by with_reducible assumption)))⟩
theorem iIsSized1_any (l : LineD) (tv : Value) (w : World) (ht : Rd w tv l.terms.length (l.terms.flatMap encTerm)) : Calls Tryz.prog 138 #[.agg #[.string l.target, tv]] w fun e w' => e = .returned (.bool (decide (40 < l.terms.length))) ∧ New w w' := by
  obtain ⟨a, cap, rfl, _⟩ := ht
  go_enter Tryz.func138, Tryz.ntmps138
  go_wp2_with fail
  go_ret
  exact ⟨ret_bool (by rw [Bool.eq_iff_iff]; simp; omega), (by repeat (first | with_reducible exact New.refl _ | with_reducible assumption | with_reducible refine New.drew ?_ | with_reducible refine New.drewN ?_ _ | with_reducible refine New.alloc ?_ _ | with_reducible refine New.setCell ?_ (by first | (simp; done) | (simp; omega) | omega) _ | with_reducible refine New.trans ?_ (by with_reducible assumption)))⟩
theorem iIsSized_any (p : ProgD) (iv vv ov lv : Value) (w : World) (hp : RdP w p iv vv ov lv) : Calls Tryz.prog 97 #[valP p iv vv ov lv] w fun e w' => e = .returned (.bool (sizedB p)) ∧ New w w' := by
  obtain ⟨hi, hv, ho, hl⟩ := hp
  obtain ⟨ia, ic, rfl, _⟩ := id hi
  obtain ⟨va, vc, rfl, _⟩ := id hv
  obtain ⟨oa, oc, rfl, _⟩ := id ho
  obtain ⟨la, lc, rfl⟩ := hl.slice
  have HL := Lib.hid hl; clear hl hi hv ho
  rcases Bool.eq_false_or_eq_true (decide ((p.inputs.length : Int) ≤ 20)) with h1 | h1
  · skip
    rcases Bool.eq_false_or_eq_true (decide ((p.vars.length : Int) ≤ 20)) with h2 | h2
    · skip
      rcases Bool.eq_false_or_eq_true (decide ((p.outputs.length : Int) ≤ 20)) with h3 | h3
      · skip
        rcases Bool.eq_false_or_eq_true (decide ((p.lines.length : Int) ≤ 40)) with h4 | h4
        · skip
          go_enter Tryz.func97, Tryz.ntmps97
          go_wp2_with fail
          refine (containsFuncLn_any 138 #[] (fun l => decide (40 < l.terms.length)) _ p.lines _ (HL.out.new (by repeat (first | with_reducible exact New.refl _ | with_reducible assumption | with_reducible refine New.drew ?_ | with_reducible refine New.drewN ?_ _ | with_reducible refine New.alloc ?_ _ | with_reducible refine New.setCell ?_ (by first | (simp; done) | (simp; omega) | omega) _ | with_reducible refine New.trans ?_ (by with_reducible assumption)))) (fun _ _ => rfl) (fun x tv w1 hx n hr => iIsSized1_any x tv w1 hr)).mono ?_; rintro e w2 ⟨rfl, b2⟩
          obtain ⟨c2, f2⟩ := b2.rules
          go_wp2_with fail
          go_ret
          refine ⟨ret_bool ?_, (by repeat (first | with_reducible exact New.refl _ | with_reducible assumption | with_reducible refine New.drew ?_ | with_reducible refine New.drewN ?_ _ | with_reducible refine New.alloc ?_ _ | with_reducible refine New.setCell ?_ (by first | (simp; done) | (simp; omega) | omega) _ | with_reducible refine New.trans ?_ (by with_reducible assumption)))⟩
          simp only [decide_eq_true_eq] at h1 h2 h3 h4; rw [sizedB, decide_eq_true (show p.inputs.length ≤ 20 by omega), decide_eq_true (show p.vars.length ≤ 20 by omega), decide_eq_true (show p.outputs.length ≤ 20 by omega), decide_eq_true (show p.lines.length ≤ 40 by omega)]; simp
        · skip
          go_enter Tryz.func97, Tryz.ntmps97
          go_wp2_with fail
          go_ret
          refine ⟨ret_bool ?_, (by repeat (first | with_reducible exact New.refl _ | with_reducible assumption | with_reducible refine New.drew ?_ | with_reducible refine New.drewN ?_ _ | with_reducible refine New.alloc ?_ _ | with_reducible refine New.setCell ?_ (by first | (simp; done) | (simp; omega) | omega) _ | with_reducible refine New.trans ?_ (by with_reducible assumption)))⟩; symm; rw [sizedB]; simp only [Bool.and_eq_false_iff, decide_eq_false_iff_not] at *; omega
      · skip
        go_enter Tryz.func97, Tryz.ntmps97
        go_wp2_with fail
        go_ret
        refine ⟨ret_bool ?_, (by repeat (first | with_reducible exact New.refl _ | with_reducible assumption | with_reducible refine New.drew ?_ | with_reducible refine New.drewN ?_ _ | with_reducible refine New.alloc ?_ _ | with_reducible refine New.setCell ?_ (by first | (simp; done) | (simp; omega) | omega) _ | with_reducible refine New.trans ?_ (by with_reducible assumption)))⟩; symm; rw [sizedB]; simp only [Bool.and_eq_false_iff, decide_eq_false_iff_not] at *; omega
    · skip
      go_enter Tryz.func97, Tryz.ntmps97
      go_wp2_with fail
      go_ret
      refine ⟨ret_bool ?_, (by repeat (first | with_reducible exact New.refl _ | with_reducible assumption | with_reducible refine New.drew ?_ | with_reducible refine New.drewN ?_ _ | with_reducible refine New.alloc ?_ _ | with_reducible refine New.setCell ?_ (by first | (simp; done) | (simp; omega) | omega) _ | with_reducible refine New.trans ?_ (by with_reducible assumption)))⟩; symm; rw [sizedB]; simp only [Bool.and_eq_false_iff, decide_eq_false_iff_not] at *; omega
  · skip
    go_enter Tryz.func97, Tryz.ntmps97
    go_wp2_with fail
    go_ret
    refine ⟨ret_bool ?_, (by repeat (first | with_reducible exact New.refl _ | with_reducible assumption | with_reducible refine New.drew ?_ | with_reducible refine New.drewN ?_ _ | with_reducible refine New.alloc ?_ _ | with_reducible refine New.setCell ?_ (by first | (simp; done) | (simp; omega) | omega) _ | with_reducible refine New.trans ?_ (by with_reducible assumption)))⟩; symm; rw [sizedB]; simp only [Bool.and_eq_false_iff, decide_eq_false_iff_not] at *; omega
set_option maxHeartbeats 800000 in
theorem sNames_any (v : Value) (xs : List ByteArray) (low : Int) (w : World) (hv : RdS w v xs) (hs : ∀ x ∈ xs, fitS x) : Calls Tryz.prog 86 #[v, .int .i64 low] w fun e w' => e = .returned (.bool (namesB xs low)) ∧ New w w' := by
  obtain ⟨a, cap, rfl, hm, HC⟩ := hv.open
  clear hv
  have HS := Lib.hid hs; clear hs
  go_enter Tryz.func86, Tryz.ntmps86
  go_wp2_with fail
  go_loopw [5] (fun i wr => ∃ k : Nat, k ≤ xs.length ∧ i = .int .i64 k ∧ Hid ((xs.take k).all isNameB = true) ∧ New w wr) (fun i _ => xs.length - (intOf i).toNat)
  case atStart => exact ⟨0, Nat.zero_le _, rfl, Lib.hid rfl, New.refl _⟩
  case round =>
    obtain ⟨k, hk, rfl, hpre, hb⟩ := hrel
    by_cases hlt : k < xs.length
    · obtain ⟨b, off, rfl, hbl, hx⟩ := HC.out wr hb k hlt
      have HT := Lib.hid (show (xs.take (k + 1)).all isNameB = ((xs.take k).all isNameB && isNameB xs[k]) by rw [List.take_succ_eq_append_getElem hlt, List.all_append]; simp)
      have hfit : xs[k].size ≤ 1048576 := HS.out _ (List.getElem_mem hlt)
      rcases Bool.eq_false_or_eq_true (isNameB xs[k]) with h1 | h1
      · go_wp2_with fail
        refine (sName_any _ _ hfit).mono ?_; rintro e w2 ⟨rfl, b2⟩
        try with_reducible replace b2 := New.undrawN b2
        try with_reducible replace b2 := New.undraw b2
        obtain ⟨c2, f2⟩ := b2.rules
        have z2 := b2.size
        try simp only [World.size_alloc, World.size_drew, World.heap_drewN, World.size_setCell] at z2
        go_wp2_with fail
        go_roundw
        case rel => exact ⟨k + 1, by omega, by go_num, Lib.hid (by rw [HT.out, hpre.out, h1]; rfl), hb.trans b2⟩
        case measure => simp [intOf]; omega
      · go_wp2_with fail
        refine (sName_any _ _ hfit).mono ?_; rintro e w2 ⟨rfl, b2⟩
        try with_reducible replace b2 := New.undrawN b2
        try with_reducible replace b2 := New.undraw b2
        obtain ⟨c2, f2⟩ := b2.rules
        have z2 := b2.size
        try simp only [World.size_alloc, World.size_drew, World.heap_drewN, World.size_setCell] at z2
        go_wp2_with fail
        go_ret
        refine ⟨ret_bool ?_, hb.trans b2⟩
        symm
        rw [namesB, Bool.and_eq_false_iff]
        left
        rw [List.all_eq_false]
        exact ⟨xs[k], List.getElem_mem hlt, by simp [h1]⟩
    · obtain rfl : k = xs.length := by omega
      go_wp2_with (first | (go_at_call 40; refine (l01In_any _ _ _ _).mono ?_; rintro e _ ⟨rfl, rfl⟩))
      go_ret
      exact ⟨ret_bool (by rw [namesB]; have := hpre.out; rw [List.take_length] at this; rw [this, Bool.true_and]), hb⟩
end Go.Proofs.YteielmihlfakgaaGreatDoor
/- Contracts: is a program written: the two functions. -/
namespace Go.Proofs.YteielmihlfakgaaGreatDoor
open Go Go.Proofs Go.RowKit
set_option linter.unusedVariables false
set_option linter.unusedSimpArgs false
set_option maxRecDepth 100000
theorem buildRd {w w' : World} {b : Nat} {vs : List Value} {n : Nat} (h : w'.heap.size > b) (hn : vs.length = n) (hm : n ≤ 1000) (hc : ∀ j (hj : j < vs.length), w'.cell? ⟨b, j, none⟩ = some vs[j]) : Rd w' (.slice (some ⟨b, 0, none⟩) n n) vs.length vs := by
  subst hn
  refine ⟨_, _, rfl, by omega, ⟨(fun h => by cases h), Nat.le_refl _⟩, fun j u hu => ⟨b, 0, rfl, h, ?_⟩⟩
  obtain ⟨hj, rfl⟩ := List.getElem?_eq_some_iff.1 hu
  rw [Nat.zero_add]; exact hc j hj
set_option maxHeartbeats 4000000 in
theorem sIsWritten_any (p : ProgD) (iv vv ov lv : Value) (w : World) (hp : RdP w p iv vv ov lv) (hf : FitP p) : Calls Tryz.prog 51 #[valP p iv vv ov lv] w fun e w' => e = .returned (.bool (wB p)) ∧ New w w' := by
  obtain ⟨hi, hv, ho, hl⟩ := hp
  obtain ⟨ia, ic, rfl, _⟩ := id hi
  obtain ⟨va, vc, rfl, _⟩ := id hv
  obtain ⟨oa, oc, rfl, _⟩ := id ho
  have HI := Lib.hid hi; have HV := Lib.hid hv; have HO := Lib.hid ho
  clear hi hv ho
  obtain ⟨ps, hps, hl1, hl2⟩ := hl
  obtain ⟨la, lc, rfl, hm, HC⟩ := Rd.flat encLV_len (by omega) hl1
  have HT := Lib.hid hl2; clear hl1 hl2
  have hpl : p.lines.length = ps.length := by rw [← hps, List.length_map]
  have HPS := Lib.hid hps; clear hps
  have zz : w.heap.size < w.heap.size + 1 := by omega
  rcases Bool.eq_false_or_eq_true (isNameB p.name) with h1 | h1
  · skip
    rcases Bool.eq_false_or_eq_true (namesB p.inputs 1) with h2 | h2
    · skip
      rcases Bool.eq_false_or_eq_true (namesB p.vars 0) with h3 | h3
      · skip
        rcases Bool.eq_false_or_eq_true (namesB p.outputs 1) with h4 | h4
        · skip
          rcases Bool.eq_false_or_eq_true (p.guard.toList.isEmpty) with h5 | h5
          · skip
            go_enter Tryz.func51, Tryz.ntmps51
            go_wp2_with fail
            refine (sName_any _ _ hf.name).mono ?_; rintro e w1 ⟨rfl, b1⟩
            try with_reducible replace b1 := New.undrawN b1
            try with_reducible replace b1 := New.undraw b1
            obtain ⟨c1, f1⟩ := b1.rules
            have z1 := b1.size
            try simp only [World.size_alloc, World.size_drew, World.heap_drewN, World.size_setCell] at z1
            have z1_0 : w.heap.size < w1.heap.size := by omega
            go_wp2_with fail
            refine (sNames_any _ p.inputs 1 _ (Rd.new HI.out (by repeat (first | with_reducible exact New.refl _ | with_reducible assumption | with_reducible refine New.drew ?_ | with_reducible refine New.drewN ?_ _ | with_reducible refine New.alloc ?_ _ | with_reducible refine New.setCell ?_ (by first | (simp; done) | (simp; omega) | omega) _ | with_reducible refine New.trans ?_ (by with_reducible assumption)))) hf.ins).mono ?_; rintro e w2 ⟨rfl, b2⟩
            try with_reducible replace b2 := New.undrawN b2
            try with_reducible replace b2 := New.undraw b2
            obtain ⟨c2, f2⟩ := b2.rules
            have z2 := b2.size
            try simp only [World.size_alloc, World.size_drew, World.heap_drewN, World.size_setCell] at z2
            have z2_0 : w.heap.size < w2.heap.size := by omega
            go_wp2_with fail
            refine (sNames_any _ p.vars 0 _ (Rd.new HV.out (by repeat (first | with_reducible exact New.refl _ | with_reducible assumption | with_reducible refine New.drew ?_ | with_reducible refine New.drewN ?_ _ | with_reducible refine New.alloc ?_ _ | with_reducible refine New.setCell ?_ (by first | (simp; done) | (simp; omega) | omega) _ | with_reducible refine New.trans ?_ (by with_reducible assumption)))) hf.vars).mono ?_; rintro e w3 ⟨rfl, b3⟩
            try with_reducible replace b3 := New.undrawN b3
            try with_reducible replace b3 := New.undraw b3
            obtain ⟨c3, f3⟩ := b3.rules
            have z3 := b3.size
            try simp only [World.size_alloc, World.size_drew, World.heap_drewN, World.size_setCell] at z3
            have z3_0 : w.heap.size < w3.heap.size := by omega
            go_wp2_with fail
            refine (sNames_any _ p.outputs 1 _ (Rd.new HO.out (by repeat (first | with_reducible exact New.refl _ | with_reducible assumption | with_reducible refine New.drew ?_ | with_reducible refine New.drewN ?_ _ | with_reducible refine New.alloc ?_ _ | with_reducible refine New.setCell ?_ (by first | (simp; done) | (simp; omega) | omega) _ | with_reducible refine New.trans ?_ (by with_reducible assumption)))) hf.outs).mono ?_; rintro e w4 ⟨rfl, b4⟩
            try with_reducible replace b4 := New.undrawN b4
            try with_reducible replace b4 := New.undraw b4
            obtain ⟨c4, f4⟩ := b4.rules
            have z4 := b4.size
            try simp only [World.size_alloc, World.size_drew, World.heap_drewN, World.size_setCell] at z4
            have z4_0 : w.heap.size < w4.heap.size := by omega
            go_wp2_with fail
            have HH := Lib.hid (show headB p = true by rw [headB, guardB]; simp [h1, h2, h3, h4, h5])
            go_loopw [3] (fun i wr => ∃ k : Nat, k ≤ ps.length ∧ i = .int .i64 k ∧ Hid ((ps.take k).all (fun q => lineB q.1) = true) ∧ New w wr ∧ wr.cell? ⟨w.heap.size, 5, none⟩ = some (.slice la ps.length lc) ∧ w.heap.size < wr.heap.size) (fun i _ => ps.length - (intOf i).toNat)
            case atStart => exact ⟨0, Nat.zero_le _, rfl, Lib.hid rfl, (by repeat (first | with_reducible exact New.refl _ | with_reducible assumption | with_reducible refine New.drew ?_ | with_reducible refine New.drewN ?_ _ | with_reducible refine New.alloc ?_ _ | with_reducible refine New.setCell ?_ (by first | (simp; done) | (simp; omega) | omega) _ | with_reducible refine New.trans ?_ (by with_reducible assumption))), by simp [c4, c3, c2, c1, z4_0, z3_0, z2_0, z1_0], by omega⟩
            case round =>
              obtain ⟨k, hk, rfl, hpre, hb, x5, hbs⟩ := hrel
              clear c4 c3 c2 c1 f4 f3 f2 f1
              obtain ⟨cc, f'⟩ := hb.rules
              by_cases hlt : k < ps.length
              · obtain ⟨b, off, rfl, hbl, hx⟩ := HC.out k hlt
                have x0 := hx 0 _ (by omega) rfl
                have x1 := hx 1 _ (by omega) rfl
                rw [Nat.add_zero] at x0
                replace hx := Lib.hid hx
                have hbw : b < wr.heap.size := by have := hb.size; omega
                have HY := Lib.hid (HT.out ps[k] (List.getElem_mem hlt))
                have HF := Lib.hid (hf.lines ps[k].1 (by rw [← HPS.out]; exact List.mem_map_of_mem (List.getElem_mem hlt)))
                have HA := Lib.hid (show (ps.take (k + 1)).all (fun q => lineB q.1) = ((ps.take k).all (fun q => lineB q.1) && lineB ps[k].1) by rw [List.take_succ_eq_append_getElem hlt, List.all_append]; simp)
                have HN := Lib.hid (fun (h : lineB ps[k].1 = false) => show p.lines.all lineB = false by rw [List.all_eq_false, ← HPS.out]; exact ⟨ps[k].1, List.mem_map_of_mem (List.getElem_mem hlt), by simp [h]⟩)
                rcases Bool.eq_false_or_eq_true (isNameB ps[k].1.target) with g1 | g1
                · rcases Bool.eq_false_or_eq_true (okH ps[k].1.terms) with g2 | g2
                  · go_wp2_with fail
                    refine (sName_any _ _ HF.out.1).mono ?_; rintro e w7 ⟨rfl, b7⟩
                    try with_reducible replace b7 := New.undrawN b7
                    try with_reducible replace b7 := New.undraw b7
                    obtain ⟨c7, f7⟩ := b7.rules
                    have z7 := b7.size
                    try simp only [World.size_alloc, World.size_drew, World.heap_drewN, World.size_setCell] at z7
                    have z7_0 : b < w7.heap.size := by omega
                    have z7_1 : w.heap.size < w7.heap.size := by omega
                    go_wp2_with fail
                    refine (sIsExpression_any _ _ _ (HY.out.new (show New w _ by exact hb.trans b7)) HF.out.2.1 HF.out.2.2).mono ?_; rintro e w8 ⟨rfl, b8⟩
                    try with_reducible replace b8 := New.undrawN b8
                    try with_reducible replace b8 := New.undraw b8
                    obtain ⟨c8, f8⟩ := b8.rules
                    have z8 := b8.size
                    try simp only [World.size_alloc, World.size_drew, World.heap_drewN, World.size_setCell] at z8
                    have z8_0 : b < w8.heap.size := by omega
                    have z8_1 : w.heap.size < w8.heap.size := by omega
                    go_wp2_with fail
                    go_roundw
                    case rel => exact ⟨k + 1, by omega, by go_num, Lib.hid (by rw [HA.out, hpre.out, lineB, g1, g2]; rfl), hb.trans (b7.trans b8), by simp [c8, c7, z7_1, z8_1, hbs, x5], by omega⟩
                    case measure => simp [intOf]; omega
                  · go_wp2_with fail
                    refine (sName_any _ _ HF.out.1).mono ?_; rintro e w7 ⟨rfl, b7⟩
                    try with_reducible replace b7 := New.undrawN b7
                    try with_reducible replace b7 := New.undraw b7
                    obtain ⟨c7, f7⟩ := b7.rules
                    have z7 := b7.size
                    try simp only [World.size_alloc, World.size_drew, World.heap_drewN, World.size_setCell] at z7
                    have z7_0 : b < w7.heap.size := by omega
                    have z7_1 : w.heap.size < w7.heap.size := by omega
                    go_wp2_with fail
                    refine (sIsExpression_any _ _ _ (HY.out.new (show New w _ by exact hb.trans b7)) HF.out.2.1 HF.out.2.2).mono ?_; rintro e w8 ⟨rfl, b8⟩
                    try with_reducible replace b8 := New.undrawN b8
                    try with_reducible replace b8 := New.undraw b8
                    obtain ⟨c8, f8⟩ := b8.rules
                    have z8 := b8.size
                    try simp only [World.size_alloc, World.size_drew, World.heap_drewN, World.size_setCell] at z8
                    have z8_0 : b < w8.heap.size := by omega
                    have z8_1 : w.heap.size < w8.heap.size := by omega
                    go_wp2_with fail
                    go_ret
                    refine ⟨ret_bool ?_, (by repeat (first | with_reducible exact New.refl _ | with_reducible assumption | with_reducible refine New.drew ?_ | with_reducible refine New.drewN ?_ _ | with_reducible refine New.alloc ?_ _ | with_reducible refine New.setCell ?_ (by first | (simp; done) | (simp; omega) | omega) _ | with_reducible refine New.trans ?_ (by with_reducible assumption)))⟩
                    rw [wB, HN.out (by rw [lineB, g2]; simp)]; simp
                · go_wp2_with fail
                  refine (sName_any _ _ HF.out.1).mono ?_; rintro e w7 ⟨rfl, b7⟩
                  try with_reducible replace b7 := New.undrawN b7
                  try with_reducible replace b7 := New.undraw b7
                  obtain ⟨c7, f7⟩ := b7.rules
                  have z7 := b7.size
                  try simp only [World.size_alloc, World.size_drew, World.heap_drewN, World.size_setCell] at z7
                  have z7_0 : b < w7.heap.size := by omega
                  have z7_1 : w.heap.size < w7.heap.size := by omega
                  go_wp2_with fail
                  go_ret
                  refine ⟨ret_bool ?_, (by repeat (first | with_reducible exact New.refl _ | with_reducible assumption | with_reducible refine New.drew ?_ | with_reducible refine New.drewN ?_ _ | with_reducible refine New.alloc ?_ _ | with_reducible refine New.setCell ?_ (by first | (simp; done) | (simp; omega) | omega) _ | with_reducible refine New.trans ?_ (by with_reducible assumption)))⟩
                  rw [wB, HN.out (by rw [lineB, g1]; simp)]; simp
              · obtain rfl : k = ps.length := by omega
                have HA := Lib.hid (show p.lines.all lineB = true by have := hpre.out; rw [List.take_length] at this; rw [← HPS.out, List.all_map]; exact this)
                go_wp2_with (first | (go_at_call 40; refine (l01In_any _ _ _ _).mono ?_; rintro e _ ⟨rfl, rfl⟩))
                go_ret
                refine ⟨ret_bool ?_, (by repeat (first | with_reducible exact New.refl _ | with_reducible assumption | with_reducible refine New.drew ?_ | with_reducible refine New.drewN ?_ _ | with_reducible refine New.alloc ?_ _ | with_reducible refine New.setCell ?_ (by first | (simp; done) | (simp; omega) | omega) _ | with_reducible refine New.trans ?_ (by with_reducible assumption)))⟩
                rw [wB, HH.out, HA.out, hpl]; simp
          · rcases Bool.eq_false_or_eq_true (isNameB p.guard) with h6 | h6
            · skip
              go_enter Tryz.func51, Tryz.ntmps51
              go_wp2_with fail
              refine (sName_any _ _ hf.name).mono ?_; rintro e w1 ⟨rfl, b1⟩
              try with_reducible replace b1 := New.undrawN b1
              try with_reducible replace b1 := New.undraw b1
              obtain ⟨c1, f1⟩ := b1.rules
              have z1 := b1.size
              try simp only [World.size_alloc, World.size_drew, World.heap_drewN, World.size_setCell] at z1
              have z1_0 : w.heap.size < w1.heap.size := by omega
              go_wp2_with fail
              refine (sNames_any _ p.inputs 1 _ (Rd.new HI.out (by repeat (first | with_reducible exact New.refl _ | with_reducible assumption | with_reducible refine New.drew ?_ | with_reducible refine New.drewN ?_ _ | with_reducible refine New.alloc ?_ _ | with_reducible refine New.setCell ?_ (by first | (simp; done) | (simp; omega) | omega) _ | with_reducible refine New.trans ?_ (by with_reducible assumption)))) hf.ins).mono ?_; rintro e w2 ⟨rfl, b2⟩
              try with_reducible replace b2 := New.undrawN b2
              try with_reducible replace b2 := New.undraw b2
              obtain ⟨c2, f2⟩ := b2.rules
              have z2 := b2.size
              try simp only [World.size_alloc, World.size_drew, World.heap_drewN, World.size_setCell] at z2
              have z2_0 : w.heap.size < w2.heap.size := by omega
              go_wp2_with fail
              refine (sNames_any _ p.vars 0 _ (Rd.new HV.out (by repeat (first | with_reducible exact New.refl _ | with_reducible assumption | with_reducible refine New.drew ?_ | with_reducible refine New.drewN ?_ _ | with_reducible refine New.alloc ?_ _ | with_reducible refine New.setCell ?_ (by first | (simp; done) | (simp; omega) | omega) _ | with_reducible refine New.trans ?_ (by with_reducible assumption)))) hf.vars).mono ?_; rintro e w3 ⟨rfl, b3⟩
              try with_reducible replace b3 := New.undrawN b3
              try with_reducible replace b3 := New.undraw b3
              obtain ⟨c3, f3⟩ := b3.rules
              have z3 := b3.size
              try simp only [World.size_alloc, World.size_drew, World.heap_drewN, World.size_setCell] at z3
              have z3_0 : w.heap.size < w3.heap.size := by omega
              go_wp2_with fail
              refine (sNames_any _ p.outputs 1 _ (Rd.new HO.out (by repeat (first | with_reducible exact New.refl _ | with_reducible assumption | with_reducible refine New.drew ?_ | with_reducible refine New.drewN ?_ _ | with_reducible refine New.alloc ?_ _ | with_reducible refine New.setCell ?_ (by first | (simp; done) | (simp; omega) | omega) _ | with_reducible refine New.trans ?_ (by with_reducible assumption)))) hf.outs).mono ?_; rintro e w4 ⟨rfl, b4⟩
              try with_reducible replace b4 := New.undrawN b4
              try with_reducible replace b4 := New.undraw b4
              obtain ⟨c4, f4⟩ := b4.rules
              have z4 := b4.size
              try simp only [World.size_alloc, World.size_drew, World.heap_drewN, World.size_setCell] at z4
              have z4_0 : w.heap.size < w4.heap.size := by omega
              go_wp2_with fail
              refine (sName_any _ _ hf.guard).mono ?_; rintro e w5 ⟨rfl, b5⟩
              try with_reducible replace b5 := New.undrawN b5
              try with_reducible replace b5 := New.undraw b5
              obtain ⟨c5, f5⟩ := b5.rules
              have z5 := b5.size
              try simp only [World.size_alloc, World.size_drew, World.heap_drewN, World.size_setCell] at z5
              have z5_0 : w.heap.size < w5.heap.size := by omega
              go_wp2_with fail
              have HH := Lib.hid (show headB p = true by rw [headB, guardB]; simp [h1, h2, h3, h4, h5, h6])
              go_loopw [3] (fun i wr => ∃ k : Nat, k ≤ ps.length ∧ i = .int .i64 k ∧ Hid ((ps.take k).all (fun q => lineB q.1) = true) ∧ New w wr ∧ wr.cell? ⟨w.heap.size, 5, none⟩ = some (.slice la ps.length lc) ∧ w.heap.size < wr.heap.size) (fun i _ => ps.length - (intOf i).toNat)
              case atStart => exact ⟨0, Nat.zero_le _, rfl, Lib.hid rfl, (by repeat (first | with_reducible exact New.refl _ | with_reducible assumption | with_reducible refine New.drew ?_ | with_reducible refine New.drewN ?_ _ | with_reducible refine New.alloc ?_ _ | with_reducible refine New.setCell ?_ (by first | (simp; done) | (simp; omega) | omega) _ | with_reducible refine New.trans ?_ (by with_reducible assumption))), by simp [c5, c4, c3, c2, c1, z5_0, z4_0, z3_0, z2_0, z1_0], by omega⟩
              case round =>
                obtain ⟨k, hk, rfl, hpre, hb, x5, hbs⟩ := hrel
                clear c5 c4 c3 c2 c1 f5 f4 f3 f2 f1
                obtain ⟨cc, f'⟩ := hb.rules
                by_cases hlt : k < ps.length
                · obtain ⟨b, off, rfl, hbl, hx⟩ := HC.out k hlt
                  have x0 := hx 0 _ (by omega) rfl
                  have x1 := hx 1 _ (by omega) rfl
                  rw [Nat.add_zero] at x0
                  replace hx := Lib.hid hx
                  have hbw : b < wr.heap.size := by have := hb.size; omega
                  have HY := Lib.hid (HT.out ps[k] (List.getElem_mem hlt))
                  have HF := Lib.hid (hf.lines ps[k].1 (by rw [← HPS.out]; exact List.mem_map_of_mem (List.getElem_mem hlt)))
                  have HA := Lib.hid (show (ps.take (k + 1)).all (fun q => lineB q.1) = ((ps.take k).all (fun q => lineB q.1) && lineB ps[k].1) by rw [List.take_succ_eq_append_getElem hlt, List.all_append]; simp)
                  have HN := Lib.hid (fun (h : lineB ps[k].1 = false) => show p.lines.all lineB = false by rw [List.all_eq_false, ← HPS.out]; exact ⟨ps[k].1, List.mem_map_of_mem (List.getElem_mem hlt), by simp [h]⟩)
                  rcases Bool.eq_false_or_eq_true (isNameB ps[k].1.target) with g1 | g1
                  · rcases Bool.eq_false_or_eq_true (okH ps[k].1.terms) with g2 | g2
                    · go_wp2_with fail
                      refine (sName_any _ _ HF.out.1).mono ?_; rintro e w7 ⟨rfl, b7⟩
                      try with_reducible replace b7 := New.undrawN b7
                      try with_reducible replace b7 := New.undraw b7
                      obtain ⟨c7, f7⟩ := b7.rules
                      have z7 := b7.size
                      try simp only [World.size_alloc, World.size_drew, World.heap_drewN, World.size_setCell] at z7
                      have z7_0 : b < w7.heap.size := by omega
                      have z7_1 : w.heap.size < w7.heap.size := by omega
                      go_wp2_with fail
                      refine (sIsExpression_any _ _ _ (HY.out.new (show New w _ by exact hb.trans b7)) HF.out.2.1 HF.out.2.2).mono ?_; rintro e w8 ⟨rfl, b8⟩
                      try with_reducible replace b8 := New.undrawN b8
                      try with_reducible replace b8 := New.undraw b8
                      obtain ⟨c8, f8⟩ := b8.rules
                      have z8 := b8.size
                      try simp only [World.size_alloc, World.size_drew, World.heap_drewN, World.size_setCell] at z8
                      have z8_0 : b < w8.heap.size := by omega
                      have z8_1 : w.heap.size < w8.heap.size := by omega
                      go_wp2_with fail
                      go_roundw
                      case rel => exact ⟨k + 1, by omega, by go_num, Lib.hid (by rw [HA.out, hpre.out, lineB, g1, g2]; rfl), hb.trans (b7.trans b8), by simp [c8, c7, z7_1, z8_1, hbs, x5], by omega⟩
                      case measure => simp [intOf]; omega
                    · go_wp2_with fail
                      refine (sName_any _ _ HF.out.1).mono ?_; rintro e w7 ⟨rfl, b7⟩
                      try with_reducible replace b7 := New.undrawN b7
                      try with_reducible replace b7 := New.undraw b7
                      obtain ⟨c7, f7⟩ := b7.rules
                      have z7 := b7.size
                      try simp only [World.size_alloc, World.size_drew, World.heap_drewN, World.size_setCell] at z7
                      have z7_0 : b < w7.heap.size := by omega
                      have z7_1 : w.heap.size < w7.heap.size := by omega
                      go_wp2_with fail
                      refine (sIsExpression_any _ _ _ (HY.out.new (show New w _ by exact hb.trans b7)) HF.out.2.1 HF.out.2.2).mono ?_; rintro e w8 ⟨rfl, b8⟩
                      try with_reducible replace b8 := New.undrawN b8
                      try with_reducible replace b8 := New.undraw b8
                      obtain ⟨c8, f8⟩ := b8.rules
                      have z8 := b8.size
                      try simp only [World.size_alloc, World.size_drew, World.heap_drewN, World.size_setCell] at z8
                      have z8_0 : b < w8.heap.size := by omega
                      have z8_1 : w.heap.size < w8.heap.size := by omega
                      go_wp2_with fail
                      go_ret
                      refine ⟨ret_bool ?_, (by repeat (first | with_reducible exact New.refl _ | with_reducible assumption | with_reducible refine New.drew ?_ | with_reducible refine New.drewN ?_ _ | with_reducible refine New.alloc ?_ _ | with_reducible refine New.setCell ?_ (by first | (simp; done) | (simp; omega) | omega) _ | with_reducible refine New.trans ?_ (by with_reducible assumption)))⟩
                      rw [wB, HN.out (by rw [lineB, g2]; simp)]; simp
                  · go_wp2_with fail
                    refine (sName_any _ _ HF.out.1).mono ?_; rintro e w7 ⟨rfl, b7⟩
                    try with_reducible replace b7 := New.undrawN b7
                    try with_reducible replace b7 := New.undraw b7
                    obtain ⟨c7, f7⟩ := b7.rules
                    have z7 := b7.size
                    try simp only [World.size_alloc, World.size_drew, World.heap_drewN, World.size_setCell] at z7
                    have z7_0 : b < w7.heap.size := by omega
                    have z7_1 : w.heap.size < w7.heap.size := by omega
                    go_wp2_with fail
                    go_ret
                    refine ⟨ret_bool ?_, (by repeat (first | with_reducible exact New.refl _ | with_reducible assumption | with_reducible refine New.drew ?_ | with_reducible refine New.drewN ?_ _ | with_reducible refine New.alloc ?_ _ | with_reducible refine New.setCell ?_ (by first | (simp; done) | (simp; omega) | omega) _ | with_reducible refine New.trans ?_ (by with_reducible assumption)))⟩
                    rw [wB, HN.out (by rw [lineB, g1]; simp)]; simp
                · obtain rfl : k = ps.length := by omega
                  have HA := Lib.hid (show p.lines.all lineB = true by have := hpre.out; rw [List.take_length] at this; rw [← HPS.out, List.all_map]; exact this)
                  go_wp2_with (first | (go_at_call 40; refine (l01In_any _ _ _ _).mono ?_; rintro e _ ⟨rfl, rfl⟩))
                  go_ret
                  refine ⟨ret_bool ?_, (by repeat (first | with_reducible exact New.refl _ | with_reducible assumption | with_reducible refine New.drew ?_ | with_reducible refine New.drewN ?_ _ | with_reducible refine New.alloc ?_ _ | with_reducible refine New.setCell ?_ (by first | (simp; done) | (simp; omega) | omega) _ | with_reducible refine New.trans ?_ (by with_reducible assumption)))⟩
                  rw [wB, HH.out, HA.out, hpl]; simp
            · skip
              go_enter Tryz.func51, Tryz.ntmps51
              go_wp2_with fail
              refine (sName_any _ _ hf.name).mono ?_; rintro e w1 ⟨rfl, b1⟩
              try with_reducible replace b1 := New.undrawN b1
              try with_reducible replace b1 := New.undraw b1
              obtain ⟨c1, f1⟩ := b1.rules
              have z1 := b1.size
              try simp only [World.size_alloc, World.size_drew, World.heap_drewN, World.size_setCell] at z1
              have z1_0 : w.heap.size < w1.heap.size := by omega
              go_wp2_with fail
              refine (sNames_any _ p.inputs 1 _ (Rd.new HI.out (by repeat (first | with_reducible exact New.refl _ | with_reducible assumption | with_reducible refine New.drew ?_ | with_reducible refine New.drewN ?_ _ | with_reducible refine New.alloc ?_ _ | with_reducible refine New.setCell ?_ (by first | (simp; done) | (simp; omega) | omega) _ | with_reducible refine New.trans ?_ (by with_reducible assumption)))) hf.ins).mono ?_; rintro e w2 ⟨rfl, b2⟩
              try with_reducible replace b2 := New.undrawN b2
              try with_reducible replace b2 := New.undraw b2
              obtain ⟨c2, f2⟩ := b2.rules
              have z2 := b2.size
              try simp only [World.size_alloc, World.size_drew, World.heap_drewN, World.size_setCell] at z2
              have z2_0 : w.heap.size < w2.heap.size := by omega
              go_wp2_with fail
              refine (sNames_any _ p.vars 0 _ (Rd.new HV.out (by repeat (first | with_reducible exact New.refl _ | with_reducible assumption | with_reducible refine New.drew ?_ | with_reducible refine New.drewN ?_ _ | with_reducible refine New.alloc ?_ _ | with_reducible refine New.setCell ?_ (by first | (simp; done) | (simp; omega) | omega) _ | with_reducible refine New.trans ?_ (by with_reducible assumption)))) hf.vars).mono ?_; rintro e w3 ⟨rfl, b3⟩
              try with_reducible replace b3 := New.undrawN b3
              try with_reducible replace b3 := New.undraw b3
              obtain ⟨c3, f3⟩ := b3.rules
              have z3 := b3.size
              try simp only [World.size_alloc, World.size_drew, World.heap_drewN, World.size_setCell] at z3
              have z3_0 : w.heap.size < w3.heap.size := by omega
              go_wp2_with fail
              refine (sNames_any _ p.outputs 1 _ (Rd.new HO.out (by repeat (first | with_reducible exact New.refl _ | with_reducible assumption | with_reducible refine New.drew ?_ | with_reducible refine New.drewN ?_ _ | with_reducible refine New.alloc ?_ _ | with_reducible refine New.setCell ?_ (by first | (simp; done) | (simp; omega) | omega) _ | with_reducible refine New.trans ?_ (by with_reducible assumption)))) hf.outs).mono ?_; rintro e w4 ⟨rfl, b4⟩
              try with_reducible replace b4 := New.undrawN b4
              try with_reducible replace b4 := New.undraw b4
              obtain ⟨c4, f4⟩ := b4.rules
              have z4 := b4.size
              try simp only [World.size_alloc, World.size_drew, World.heap_drewN, World.size_setCell] at z4
              have z4_0 : w.heap.size < w4.heap.size := by omega
              go_wp2_with fail
              refine (sName_any _ _ hf.guard).mono ?_; rintro e w5 ⟨rfl, b5⟩
              try with_reducible replace b5 := New.undrawN b5
              try with_reducible replace b5 := New.undraw b5
              obtain ⟨c5, f5⟩ := b5.rules
              have z5 := b5.size
              try simp only [World.size_alloc, World.size_drew, World.heap_drewN, World.size_setCell] at z5
              have z5_0 : w.heap.size < w5.heap.size := by omega
              go_wp2_with fail
              go_ret
              refine ⟨ret_bool ?_, (by repeat (first | with_reducible exact New.refl _ | with_reducible assumption | with_reducible refine New.drew ?_ | with_reducible refine New.drewN ?_ _ | with_reducible refine New.alloc ?_ _ | with_reducible refine New.setCell ?_ (by first | (simp; done) | (simp; omega) | omega) _ | with_reducible refine New.trans ?_ (by with_reducible assumption)))⟩
              rw [wB, headB, guardB]; simp [h1, h2, h3, h4, h5, h6]
        · skip
          go_enter Tryz.func51, Tryz.ntmps51
          go_wp2_with fail
          refine (sName_any _ _ hf.name).mono ?_; rintro e w1 ⟨rfl, b1⟩
          try with_reducible replace b1 := New.undrawN b1
          try with_reducible replace b1 := New.undraw b1
          obtain ⟨c1, f1⟩ := b1.rules
          have z1 := b1.size
          try simp only [World.size_alloc, World.size_drew, World.heap_drewN, World.size_setCell] at z1
          have z1_0 : w.heap.size < w1.heap.size := by omega
          go_wp2_with fail
          refine (sNames_any _ p.inputs 1 _ (Rd.new HI.out (by repeat (first | with_reducible exact New.refl _ | with_reducible assumption | with_reducible refine New.drew ?_ | with_reducible refine New.drewN ?_ _ | with_reducible refine New.alloc ?_ _ | with_reducible refine New.setCell ?_ (by first | (simp; done) | (simp; omega) | omega) _ | with_reducible refine New.trans ?_ (by with_reducible assumption)))) hf.ins).mono ?_; rintro e w2 ⟨rfl, b2⟩
          try with_reducible replace b2 := New.undrawN b2
          try with_reducible replace b2 := New.undraw b2
          obtain ⟨c2, f2⟩ := b2.rules
          have z2 := b2.size
          try simp only [World.size_alloc, World.size_drew, World.heap_drewN, World.size_setCell] at z2
          have z2_0 : w.heap.size < w2.heap.size := by omega
          go_wp2_with fail
          refine (sNames_any _ p.vars 0 _ (Rd.new HV.out (by repeat (first | with_reducible exact New.refl _ | with_reducible assumption | with_reducible refine New.drew ?_ | with_reducible refine New.drewN ?_ _ | with_reducible refine New.alloc ?_ _ | with_reducible refine New.setCell ?_ (by first | (simp; done) | (simp; omega) | omega) _ | with_reducible refine New.trans ?_ (by with_reducible assumption)))) hf.vars).mono ?_; rintro e w3 ⟨rfl, b3⟩
          try with_reducible replace b3 := New.undrawN b3
          try with_reducible replace b3 := New.undraw b3
          obtain ⟨c3, f3⟩ := b3.rules
          have z3 := b3.size
          try simp only [World.size_alloc, World.size_drew, World.heap_drewN, World.size_setCell] at z3
          have z3_0 : w.heap.size < w3.heap.size := by omega
          go_wp2_with fail
          refine (sNames_any _ p.outputs 1 _ (Rd.new HO.out (by repeat (first | with_reducible exact New.refl _ | with_reducible assumption | with_reducible refine New.drew ?_ | with_reducible refine New.drewN ?_ _ | with_reducible refine New.alloc ?_ _ | with_reducible refine New.setCell ?_ (by first | (simp; done) | (simp; omega) | omega) _ | with_reducible refine New.trans ?_ (by with_reducible assumption)))) hf.outs).mono ?_; rintro e w4 ⟨rfl, b4⟩
          try with_reducible replace b4 := New.undrawN b4
          try with_reducible replace b4 := New.undraw b4
          obtain ⟨c4, f4⟩ := b4.rules
          have z4 := b4.size
          try simp only [World.size_alloc, World.size_drew, World.heap_drewN, World.size_setCell] at z4
          have z4_0 : w.heap.size < w4.heap.size := by omega
          go_wp2_with fail
          go_ret
          refine ⟨ret_bool ?_, (by repeat (first | with_reducible exact New.refl _ | with_reducible assumption | with_reducible refine New.drew ?_ | with_reducible refine New.drewN ?_ _ | with_reducible refine New.alloc ?_ _ | with_reducible refine New.setCell ?_ (by first | (simp; done) | (simp; omega) | omega) _ | with_reducible refine New.trans ?_ (by with_reducible assumption)))⟩
          rw [wB, headB]; simp [h1, h2, h3, h4]
      · skip
        go_enter Tryz.func51, Tryz.ntmps51
        go_wp2_with fail
        refine (sName_any _ _ hf.name).mono ?_; rintro e w1 ⟨rfl, b1⟩
        try with_reducible replace b1 := New.undrawN b1
        try with_reducible replace b1 := New.undraw b1
        obtain ⟨c1, f1⟩ := b1.rules
        have z1 := b1.size
        try simp only [World.size_alloc, World.size_drew, World.heap_drewN, World.size_setCell] at z1
        have z1_0 : w.heap.size < w1.heap.size := by omega
        go_wp2_with fail
        refine (sNames_any _ p.inputs 1 _ (Rd.new HI.out (by repeat (first | with_reducible exact New.refl _ | with_reducible assumption | with_reducible refine New.drew ?_ | with_reducible refine New.drewN ?_ _ | with_reducible refine New.alloc ?_ _ | with_reducible refine New.setCell ?_ (by first | (simp; done) | (simp; omega) | omega) _ | with_reducible refine New.trans ?_ (by with_reducible assumption)))) hf.ins).mono ?_; rintro e w2 ⟨rfl, b2⟩
        try with_reducible replace b2 := New.undrawN b2
        try with_reducible replace b2 := New.undraw b2
        obtain ⟨c2, f2⟩ := b2.rules
        have z2 := b2.size
        try simp only [World.size_alloc, World.size_drew, World.heap_drewN, World.size_setCell] at z2
        have z2_0 : w.heap.size < w2.heap.size := by omega
        go_wp2_with fail
        refine (sNames_any _ p.vars 0 _ (Rd.new HV.out (by repeat (first | with_reducible exact New.refl _ | with_reducible assumption | with_reducible refine New.drew ?_ | with_reducible refine New.drewN ?_ _ | with_reducible refine New.alloc ?_ _ | with_reducible refine New.setCell ?_ (by first | (simp; done) | (simp; omega) | omega) _ | with_reducible refine New.trans ?_ (by with_reducible assumption)))) hf.vars).mono ?_; rintro e w3 ⟨rfl, b3⟩
        try with_reducible replace b3 := New.undrawN b3
        try with_reducible replace b3 := New.undraw b3
        obtain ⟨c3, f3⟩ := b3.rules
        have z3 := b3.size
        try simp only [World.size_alloc, World.size_drew, World.heap_drewN, World.size_setCell] at z3
        have z3_0 : w.heap.size < w3.heap.size := by omega
        go_wp2_with fail
        go_ret
        refine ⟨ret_bool ?_, (by repeat (first | with_reducible exact New.refl _ | with_reducible assumption | with_reducible refine New.drew ?_ | with_reducible refine New.drewN ?_ _ | with_reducible refine New.alloc ?_ _ | with_reducible refine New.setCell ?_ (by first | (simp; done) | (simp; omega) | omega) _ | with_reducible refine New.trans ?_ (by with_reducible assumption)))⟩
        rw [wB, headB]; simp [h1, h2, h3]
    · skip
      go_enter Tryz.func51, Tryz.ntmps51
      go_wp2_with fail
      refine (sName_any _ _ hf.name).mono ?_; rintro e w1 ⟨rfl, b1⟩
      try with_reducible replace b1 := New.undrawN b1
      try with_reducible replace b1 := New.undraw b1
      obtain ⟨c1, f1⟩ := b1.rules
      have z1 := b1.size
      try simp only [World.size_alloc, World.size_drew, World.heap_drewN, World.size_setCell] at z1
      have z1_0 : w.heap.size < w1.heap.size := by omega
      go_wp2_with fail
      refine (sNames_any _ p.inputs 1 _ (Rd.new HI.out (by repeat (first | with_reducible exact New.refl _ | with_reducible assumption | with_reducible refine New.drew ?_ | with_reducible refine New.drewN ?_ _ | with_reducible refine New.alloc ?_ _ | with_reducible refine New.setCell ?_ (by first | (simp; done) | (simp; omega) | omega) _ | with_reducible refine New.trans ?_ (by with_reducible assumption)))) hf.ins).mono ?_; rintro e w2 ⟨rfl, b2⟩
      try with_reducible replace b2 := New.undrawN b2
      try with_reducible replace b2 := New.undraw b2
      obtain ⟨c2, f2⟩ := b2.rules
      have z2 := b2.size
      try simp only [World.size_alloc, World.size_drew, World.heap_drewN, World.size_setCell] at z2
      have z2_0 : w.heap.size < w2.heap.size := by omega
      go_wp2_with fail
      go_ret
      refine ⟨ret_bool ?_, (by repeat (first | with_reducible exact New.refl _ | with_reducible assumption | with_reducible refine New.drew ?_ | with_reducible refine New.drewN ?_ _ | with_reducible refine New.alloc ?_ _ | with_reducible refine New.setCell ?_ (by first | (simp; done) | (simp; omega) | omega) _ | with_reducible refine New.trans ?_ (by with_reducible assumption)))⟩
      rw [wB, headB]; simp [h1, h2]
  · skip
    go_enter Tryz.func51, Tryz.ntmps51
    go_wp2_with fail
    refine (sName_any _ _ hf.name).mono ?_; rintro e w1 ⟨rfl, b1⟩
    try with_reducible replace b1 := New.undrawN b1
    try with_reducible replace b1 := New.undraw b1
    obtain ⟨c1, f1⟩ := b1.rules
    have z1 := b1.size
    try simp only [World.size_alloc, World.size_drew, World.heap_drewN, World.size_setCell] at z1
    have z1_0 : w.heap.size < w1.heap.size := by omega
    go_wp2_with fail
    go_ret
    refine ⟨ret_bool ?_, (by repeat (first | with_reducible exact New.refl _ | with_reducible assumption | with_reducible refine New.drew ?_ | with_reducible refine New.drewN ?_ _ | with_reducible refine New.alloc ?_ _ | with_reducible refine New.setCell ?_ (by first | (simp; done) | (simp; omega) | omega) _ | with_reducible refine New.trans ?_ (by with_reducible assumption)))⟩
    rw [wB, headB]; simp [h1]
end Go.Proofs.YteielmihlfakgaaGreatDoor
/- Contracts: is a program written: the program's own function. -/
namespace Go.Proofs.YteielmihlfakgaaGreatDoor
open Go Go.Proofs Go.RowKit
set_option linter.unusedVariables false
set_option linter.unusedSimpArgs false
set_option maxRecDepth 100000
theorem buildRd3 {w : World} {b n : Nat} (vs : List Value) (t : TypeId) (hb : b = w.heap.size) (hn : vs.length = n) (hm : n ≤ 1000) : Rd (w.alloc (.cells vs.toArray t)) (.slice (some ⟨b, 0, none⟩) n n) vs.length vs := by
  subst hb
  exact buildRd (w := w) (by simp) hn hm (fun j hj => (cell_alloc_new _ _ _ _ _ rfl).trans (by simp [hj]))
def allN (p : ProgD) : Bool := [p.inputs, p.vars, p.outputs].flatten.all isNameB
theorem allN_eq (p : ProgD) : allN p = (p.inputs ++ p.vars ++ p.outputs).all isNameB := by simp [allN]
theorem iAreNamesP_any (p : ProgD) (v : Value) (w : World) (hv : RdS w v [p.inputs, p.vars, p.outputs].flatten) (hs : ∀ x ∈ [p.inputs, p.vars, p.outputs].flatten, fitS x) (hk : KW w) : Calls Tryz.prog 95 #[v] w fun e w' => e = .returned (.bool (allN p)) ∧ New w w' := iAreNames_any v _ w hv hs hk
set_option maxHeartbeats 4000000 in
theorem iIsWritten_any (p : ProgD) (iv vv ov lv : Value) (w : World) (hp : RdP w p iv vv ov lv) (hf : FitP p) (hk : KW w) : Calls Tryz.prog 57 #[valP p iv vv ov lv] w fun e w' => e = .returned (.bool (wB p)) ∧ New w w' := by
  rw [← wI_wB]
  have HK := Lib.hid hk; clear hk
  have HP := Lib.hid hp
  obtain ⟨hi, hv, ho, hl⟩ := hp
  obtain ⟨ia, ic, rfl, _⟩ := id hi
  obtain ⟨va, vc, rfl, _⟩ := id hv
  obtain ⟨oa, oc, rfl, _⟩ := id ho
  obtain ⟨la, lc, rfl⟩ := hl.slice
  have HI := Lib.hid hi; have HV := Lib.hid hv; have HO := Lib.hid ho; have HL := Lib.hid hl
  clear hi hv ho hl
  have zz : w.heap.size < w.heap.size + 1 := by omega
  have hsz : ∀ xs ∈ [p.inputs, p.vars, p.outputs], xs.length ≤ 1048576 := by
    intro xs hxs
    simp only [List.mem_cons, List.not_mem_nil, or_false] at hxs
    rcases hxs with rfl | rfl | rfl
    · exact hf.insl
    · exact hf.varsl
    · exact hf.outsl
  have hall : ∀ x ∈ [p.inputs, p.vars, p.outputs].flatten, fitS x := by
    intro x hx
    simp only [List.flatten_cons, List.flatten_nil, List.append_nil, List.mem_append] at hx
    rcases hx with hx | hx | hx
    · exact hf.ins x hx
    · exact hf.vars x hx
    · exact hf.outs x hx
  have HR := Lib.hid (fun (w' : World) (n : New w w') => show ∀ k (h : k < [Value.slice ia p.inputs.length ic, .slice va p.vars.length vc, .slice oa p.outputs.length oc].length) (h' : k < [p.inputs, p.vars, p.outputs].length), RdS w' [Value.slice ia p.inputs.length ic, .slice va p.vars.length vc, .slice oa p.outputs.length oc][k] [p.inputs, p.vars, p.outputs][k] by
    intro k h h'
    rcases k with _ | _ | _ | k
    · exact Rd.new HI.out n
    · exact Rd.new HV.out n
    · exact Rd.new HO.out n
    · simp at h; omega)
  have HE := Lib.hid (show [p.inputs, p.vars, p.outputs].flatten = p.inputs ++ p.vars ++ p.outputs by simp)
  go_enter Tryz.func57, Tryz.ntmps57
  go_wp2_with fail
  refine (iIsName_any p.name _ hf.name (HK.out.new (by repeat (first | with_reducible exact New.refl _ | with_reducible assumption | with_reducible refine New.drew ?_ | with_reducible refine New.drewN ?_ _ | with_reducible refine New.alloc ?_ _ | with_reducible refine New.setCell ?_ (by first | (simp; done) | (simp; omega) | omega) _ | with_reducible refine New.trans ?_ (by with_reducible assumption))))).mono ?_; rintro e w1 ⟨rfl, rfl⟩
  rcases (Bool.eq_false_or_eq_true (isNameB p.name)).symm with h1 | h1
  · skip
    go_wp2_with fail
    go_ret
    refine ⟨ret_bool ?_, (by repeat (first | with_reducible exact New.refl _ | with_reducible assumption | with_reducible refine New.drew ?_ | with_reducible refine New.drewN ?_ _ | with_reducible refine New.alloc ?_ _ | with_reducible refine New.setCell ?_ (by first | (simp; done) | (simp; omega) | omega) _ | with_reducible refine New.trans ?_ (by with_reducible assumption)))⟩
    rw [wI, h1]; simp
  go_wp2_with fail
  refine (concatS_any _ [.slice ia p.inputs.length ic, .slice va p.vars.length vc, .slice oa p.outputs.length oc] [p.inputs, p.vars, p.outputs] _ (buildRd3 _ _ (by simp) rfl (by simp)) rfl (HR.out _ (by repeat (first | with_reducible exact New.refl _ | with_reducible assumption | with_reducible refine New.drew ?_ | with_reducible refine New.drewN ?_ _ | with_reducible refine New.alloc ?_ _ | with_reducible refine New.setCell ?_ (by first | (simp; done) | (simp; omega) | omega) _ | with_reducible refine New.trans ?_ (by with_reducible assumption)))) hsz (by simp)).mono ?_; rintro e w2 ⟨r2, rfl, b2, own2⟩
  obtain ⟨c2, f2⟩ := b2.rules
  have z2 := b2.size
  try simp only [World.size_alloc, World.size_drew, World.heap_drewN, World.size_setCell] at z2
  have z2_0 : w.heap.size < w2.heap.size := by omega
  go_wp2_with fail
  refine (iAreNamesP_any p _ _ (own_rd own2) hall (HK.out.new (by repeat (first | with_reducible exact New.refl _ | with_reducible assumption | with_reducible refine New.drew ?_ | with_reducible refine New.drewN ?_ _ | with_reducible refine New.alloc ?_ _ | with_reducible refine New.setCell ?_ (by first | (simp; done) | (simp; omega) | omega) _ | with_reducible refine New.trans ?_ (by with_reducible assumption))))).mono ?_; rintro e w3 ⟨rfl, b3⟩
  obtain ⟨c3, f3⟩ := b3.rules
  have z3 := b3.size
  have z3_0 : w.heap.size < w3.heap.size := by have := z3; first | omega | (simp only [World.size_alloc] at this; omega)
  rcases (Bool.eq_false_or_eq_true (allN p)).symm with h2 | h2
  · skip
    go_wp2_with fail
    go_ret
    refine ⟨ret_bool ?_, (by repeat (first | with_reducible exact New.refl _ | with_reducible assumption | with_reducible refine New.drew ?_ | with_reducible refine New.drewN ?_ _ | with_reducible refine New.alloc ?_ _ | with_reducible refine New.setCell ?_ (by first | (simp; done) | (simp; omega) | omega) _ | with_reducible refine New.trans ?_ (by with_reducible assumption)))⟩
    rw [wI, ← allN_eq, h2]; simp
  have g1 : ∀ {Q : Prop}, Q → Q := fun h => h
  rcases (Bool.eq_false_or_eq_true (p.guard.toList.isEmpty)).symm with h3 | h3
  · skip
    go_wp2_with fail
    refine (iIsName_any p.guard _ hf.guard (HK.out.new (by repeat (first | with_reducible exact New.refl _ | with_reducible assumption | with_reducible refine New.drew ?_ | with_reducible refine New.drewN ?_ _ | with_reducible refine New.alloc ?_ _ | with_reducible refine New.setCell ?_ (by first | (simp; done) | (simp; omega) | omega) _ | with_reducible refine New.trans ?_ (by with_reducible assumption))))).mono ?_; rintro e w4 ⟨rfl, rfl⟩
    rcases (Bool.eq_false_or_eq_true (isNameB p.guard)).symm with h4 | h4
    · skip
      go_wp2_with fail
      go_ret
      refine ⟨ret_bool ?_, (by repeat (first | with_reducible exact New.refl _ | with_reducible assumption | with_reducible refine New.drew ?_ | with_reducible refine New.drewN ?_ _ | with_reducible refine New.alloc ?_ _ | with_reducible refine New.setCell ?_ (by first | (simp; done) | (simp; omega) | omega) _ | with_reducible refine New.trans ?_ (by with_reducible assumption)))⟩
      rw [wI, guardB, h3, h4]; simp
    have HG := Lib.hid (show guardB p.guard = true by rw [guardB]; simp [h3, h4])
    go_wp2_with fail
    rotate_left 1
    iterate 3
      · have hz : p.inputs.length = 0 ∨ p.outputs.length = 0 ∨ p.lines.length = 0 := by omega
        go_ret
        refine ⟨ret_bool ?_, (by repeat (first | with_reducible exact New.refl _ | with_reducible assumption | with_reducible refine New.drew ?_ | with_reducible refine New.drewN ?_ _ | with_reducible refine New.alloc ?_ _ | with_reducible refine New.setCell ?_ (by first | (simp; done) | (simp; omega) | omega) _ | with_reducible refine New.trans ?_ (by with_reducible assumption)))⟩
        rcases hz with hz | hz | hz <;> simp [wI, hz]
    have d1 : decide (0 < p.inputs.length) = true := by rw [decide_eq_true_eq]; omega
    have d2 : decide (0 < p.outputs.length) = true := by rw [decide_eq_true_eq]; omega
    have d3 : decide (0 < p.lines.length) = true := by rw [decide_eq_true_eq]; omega
    refine (iIsSized_any p _ _ _ _ _ (HP.out.new (by repeat (first | with_reducible exact New.refl _ | with_reducible assumption | with_reducible refine New.drew ?_ | with_reducible refine New.drewN ?_ _ | with_reducible refine New.alloc ?_ _ | with_reducible refine New.setCell ?_ (by first | (simp; done) | (simp; omega) | omega) _ | with_reducible refine New.trans ?_ (by with_reducible assumption))))).mono ?_; rintro e w5 ⟨rfl, b5⟩
    obtain ⟨c5, f5⟩ := b5.rules
    have z5 := b5.size
    have z5_0 : w.heap.size < w5.heap.size := by have := z5; first | omega | (simp only [World.size_alloc] at this; omega)
    rcases (Bool.eq_false_or_eq_true (sizedB p)).symm with d4 | d4
    · skip
      go_wp2_with fail
      go_ret
      refine ⟨ret_bool ?_, (by repeat (first | with_reducible exact New.refl _ | with_reducible assumption | with_reducible refine New.drew ?_ | with_reducible refine New.drewN ?_ _ | with_reducible refine New.alloc ?_ _ | with_reducible refine New.setCell ?_ (by first | (simp; done) | (simp; omega) | omega) _ | with_reducible refine New.trans ?_ (by with_reducible assumption)))⟩
      rw [wI, d4]; simp
    go_wp2_with fail
    refine (containsFuncLn_any 99 #[] (fun l => !lineB l) _ p.lines _ (HL.out.new (by repeat (first | with_reducible exact New.refl _ | with_reducible assumption | with_reducible refine New.drew ?_ | with_reducible refine New.drewN ?_ _ | with_reducible refine New.alloc ?_ _ | with_reducible refine New.setCell ?_ (by first | (simp; done) | (simp; omega) | omega) _ | with_reducible refine New.trans ?_ (by with_reducible assumption)))) (fun _ _ => rfl) (fun x tv w1 hx n hr => iIsWritten1_any x tv w1 hr (hf.lines x hx) (HK.out.new (New.trans (show New w _ by exact (by repeat (first | with_reducible exact New.refl _ | with_reducible assumption | with_reducible refine New.drew ?_ | with_reducible refine New.drewN ?_ _ | with_reducible refine New.alloc ?_ _ | with_reducible refine New.setCell ?_ (by first | (simp; done) | (simp; omega) | omega) _ | with_reducible refine New.trans ?_ (by with_reducible assumption)))) n)))).mono ?_; rintro e w6 ⟨rfl, b6⟩
    go_wp2_with fail
    go_ret
    refine ⟨ret_bool ?_, (by repeat (first | with_reducible exact New.refl _ | with_reducible assumption | with_reducible refine New.drew ?_ | with_reducible refine New.drewN ?_ _ | with_reducible refine New.alloc ?_ _ | with_reducible refine New.setCell ?_ (by first | (simp; done) | (simp; omega) | omega) _ | with_reducible refine New.trans ?_ (by with_reducible assumption)))⟩
    rw [wI, d1, d2, d3, h1, d4, HG.out, ← allN_eq, h2]; simp
  · skip
    have HG := Lib.hid (show guardB p.guard = true by rw [guardB]; simp [h3])
    go_wp2_with fail
    rotate_left 1
    iterate 3
      · have hz : p.inputs.length = 0 ∨ p.outputs.length = 0 ∨ p.lines.length = 0 := by omega
        go_ret
        refine ⟨ret_bool ?_, (by repeat (first | with_reducible exact New.refl _ | with_reducible assumption | with_reducible refine New.drew ?_ | with_reducible refine New.drewN ?_ _ | with_reducible refine New.alloc ?_ _ | with_reducible refine New.setCell ?_ (by first | (simp; done) | (simp; omega) | omega) _ | with_reducible refine New.trans ?_ (by with_reducible assumption)))⟩
        rcases hz with hz | hz | hz <;> simp [wI, hz]
    have d1 : decide (0 < p.inputs.length) = true := by rw [decide_eq_true_eq]; omega
    have d2 : decide (0 < p.outputs.length) = true := by rw [decide_eq_true_eq]; omega
    have d3 : decide (0 < p.lines.length) = true := by rw [decide_eq_true_eq]; omega
    refine (iIsSized_any p _ _ _ _ _ (HP.out.new (by repeat (first | with_reducible exact New.refl _ | with_reducible assumption | with_reducible refine New.drew ?_ | with_reducible refine New.drewN ?_ _ | with_reducible refine New.alloc ?_ _ | with_reducible refine New.setCell ?_ (by first | (simp; done) | (simp; omega) | omega) _ | with_reducible refine New.trans ?_ (by with_reducible assumption))))).mono ?_; rintro e w5 ⟨rfl, b5⟩
    obtain ⟨c5, f5⟩ := b5.rules
    have z5 := b5.size
    have z5_0 : w.heap.size < w5.heap.size := by have := z5; first | omega | (simp only [World.size_alloc] at this; omega)
    rcases (Bool.eq_false_or_eq_true (sizedB p)).symm with d4 | d4
    · skip
      go_wp2_with fail
      go_ret
      refine ⟨ret_bool ?_, (by repeat (first | with_reducible exact New.refl _ | with_reducible assumption | with_reducible refine New.drew ?_ | with_reducible refine New.drewN ?_ _ | with_reducible refine New.alloc ?_ _ | with_reducible refine New.setCell ?_ (by first | (simp; done) | (simp; omega) | omega) _ | with_reducible refine New.trans ?_ (by with_reducible assumption)))⟩
      rw [wI, d4]; simp
    go_wp2_with fail
    refine (containsFuncLn_any 99 #[] (fun l => !lineB l) _ p.lines _ (HL.out.new (by repeat (first | with_reducible exact New.refl _ | with_reducible assumption | with_reducible refine New.drew ?_ | with_reducible refine New.drewN ?_ _ | with_reducible refine New.alloc ?_ _ | with_reducible refine New.setCell ?_ (by first | (simp; done) | (simp; omega) | omega) _ | with_reducible refine New.trans ?_ (by with_reducible assumption)))) (fun _ _ => rfl) (fun x tv w1 hx n hr => iIsWritten1_any x tv w1 hr (hf.lines x hx) (HK.out.new (New.trans (show New w _ by exact (by repeat (first | with_reducible exact New.refl _ | with_reducible assumption | with_reducible refine New.drew ?_ | with_reducible refine New.drewN ?_ _ | with_reducible refine New.alloc ?_ _ | with_reducible refine New.setCell ?_ (by first | (simp; done) | (simp; omega) | omega) _ | with_reducible refine New.trans ?_ (by with_reducible assumption)))) n)))).mono ?_; rintro e w6 ⟨rfl, b6⟩
    go_wp2_with fail
    go_ret
    refine ⟨ret_bool ?_, (by repeat (first | with_reducible exact New.refl _ | with_reducible assumption | with_reducible refine New.drew ?_ | with_reducible refine New.drewN ?_ _ | with_reducible refine New.alloc ?_ _ | with_reducible refine New.setCell ?_ (by first | (simp; done) | (simp; omega) | omega) _ | with_reducible refine New.trans ?_ (by with_reducible assumption)))⟩
    rw [wI, d1, d2, d3, h1, d4, HG.out, ← allN_eq, h2]; simp
end Go.Proofs.YteielmihlfakgaaGreatDoor
