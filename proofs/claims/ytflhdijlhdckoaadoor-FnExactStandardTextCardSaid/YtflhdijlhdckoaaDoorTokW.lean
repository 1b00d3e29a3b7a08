/- Contracts: tokens. -/
import Derived.Test.YtflhdijlhdckoaaDoorProg
import Derived.Test.YtflhdijlhdckoaaDoorNumW
import Derived.Test.YtflhdijlhdckoaaDoorWordB
namespace Go.Proofs.YtflhdijlhdckoaaDoor
open Go Go.Proofs Go.RowKit
set_option linter.unusedVariables false
set_option linter.unusedSimpArgs false
set_option maxRecDepth 100000
def signL : List UInt8 := [61, 40, 41, 44, 59]
def isSgn (l : List UInt8) : Bool := signL.any fun c => l == [c]
theorem cmp_lit (s : ByteArray) (l : List UInt8) : (s.toList == (⟨l.toArray⟩ : ByteArray).toList) = (s.data.toList == l) := by rw [ByteArray.toList_eq, ByteArray.toList_eq]
theorem sSign_any (s : ByteArray) (w : World) : Calls Tryd.prog 135 #[.string s] w fun e w' => e = .returned (.bool (isSgn s.data.toList)) ∧ w = w' := by
  have e : isSgn s.data.toList = (s.data.toList == [61] || (s.data.toList == [40] || (s.data.toList == [41] || (s.data.toList == [44] || s.data.toList == [59])))) := by simp [isSgn, signL]
  have E := Lib.hid e; clear e
  go_enter Tryd.func135, Tryd.ntmps135
  go_wp2_with fail
  all_goals
    go_ret
    refine ⟨ret_bool ?_, rfl⟩
    have e := E.out
    rw [← ByteArray.toList_eq] at e ⊢
    rw [e]
    simp_all [Bool.or_assoc]
def signB : ByteArray := ⟨#[61, 40, 41, 44, 59]⟩
theorem at_signs (c : UInt8) : decide (0 ≤ Lib.indexByte signB.data.toList c) = isSgn [c] := by
  have h := all_bytes (p := fun c => decide (0 ≤ Lib.indexByte signB.data.toList c) == isSgn [c]) (by decide +kernel) c
  exact beq_iff_eq.1 h
theorem one_byte {s : ByteArray} (h : s.size = 1) : ∃ c, s = ⟨#[c]⟩ := by
  obtain ⟨⟨l⟩⟩ := s
  have h' : l.length = 1 := h
  match l, h' with
  | [c], _ => exact ⟨c, rfl⟩
theorem sgn_len {s : ByteArray} (h : ¬ s.size = 1) : isSgn s.data.toList = false := by
  have hl : s.data.toList.length = s.size := by rw [Array.length_toList]; rfl
  rw [Bool.eq_false_iff]
  intro h'
  simp only [isSgn, List.any_eq_true, beq_iff_eq] at h'
  obtain ⟨c, _, e⟩ := h'
  rw [e] at hl
  exact h hl.symm
/-- A token, by its kind and text. -/
def tokB (k : Int) (s : ByteArray) : Bool := if k = 1 then isWordB s else if k = 2 then isCnt s.data.toList else if k = 3 then isSgn s.data.toList else false
set_option maxHeartbeats 1000000 in
theorem iIsToken_any (k : Int) (s : ByteArray) (w : World) (hs : s.size ≤ 1048576) (hp : PW w) (he : ER w) :
    Calls Tryd.prog 108 #[.agg #[.int .i64 k, .string s]] w fun e w' => e = .returned (.bool (tokB k s)) ∧ New w w' := by
  have HP := Lib.hid hp
  have HE := Lib.hid he
  clear hp he
  by_cases h1 : k = 1
  · subst h1
    go_enter Tryd.func108, Tryd.ntmps108
    go_wp2_with (first | (go_at_call 138; refine (iIsWord_any s _ hs).mono ?_; rintro e _ ⟨rfl, rfl⟩))
    go_ret
    exact ⟨rfl, (by repeat (first | with_reducible exact New.refl _ | with_reducible assumption | with_reducible refine New.drew ?_ | with_reducible refine New.drewN ?_ _ | with_reducible refine New.alloc ?_ _ | with_reducible refine New.setCell ?_ (by first | (simp; done) | (simp; omega) | omega) _ | with_reducible refine New.trans ?_ (by with_reducible assumption)))⟩
  by_cases h2 : k = 2
  · subst h2
    go_enter Tryd.func108, Tryd.ntmps108
    go_wp2_with fail
    refine (iIsCount_any s _ hs (HP.out.new (by repeat (first | with_reducible exact New.refl _ | with_reducible assumption | with_reducible refine New.drew ?_ | with_reducible refine New.drewN ?_ _ | with_reducible refine New.alloc ?_ _ | with_reducible refine New.setCell ?_ (by first | (simp; done) | (simp; omega) | omega) _ | with_reducible refine New.trans ?_ (by with_reducible assumption)))) (HE.out.new (by repeat (first | with_reducible exact New.refl _ | with_reducible assumption | with_reducible refine New.drew ?_ | with_reducible refine New.drewN ?_ _ | with_reducible refine New.alloc ?_ _ | with_reducible refine New.setCell ?_ (by first | (simp; done) | (simp; omega) | omega) _ | with_reducible refine New.trans ?_ (by with_reducible assumption))))).mono ?_; rintro e w1 ⟨rfl, b1⟩
    try with_reducible replace b1 := New.undrawN b1
    try with_reducible replace b1 := New.undraw b1
    obtain ⟨c1, f1⟩ := b1.rules
    have z1 := b1.size
    try simp only [World.size_alloc, World.size_drew, World.heap_drewN, World.size_setCell] at z1
    go_wp2_with fail
    go_ret
    exact ⟨rfl, (by repeat (first | with_reducible exact New.refl _ | with_reducible assumption | with_reducible refine New.drew ?_ | with_reducible refine New.drewN ?_ _ | with_reducible refine New.alloc ?_ _ | with_reducible refine New.setCell ?_ (by first | (simp; done) | (simp; omega) | omega) _ | with_reducible refine New.trans ?_ (by with_reducible assumption)))⟩
  by_cases h3 : k = 3
  · subst h3
    by_cases h4 : s.size = 1
    · obtain ⟨c, rfl⟩ := one_byte h4
      have HC := Lib.hid (fun (w0 : World) => Tryd.strings_Contains_one signB c w0)
      rw [at_signs c] at HC
      have e : tokB 3 ⟨#[c]⟩ = isSgn [c] := rfl
      rw [e]
      clear hs h4 e h1 h2
      generalize isSgn [c] = b at HC
      go_enter Tryd.func108, Tryd.ntmps108
      go_wp2_with fail
      refine (HC.out _).mono ?_; rintro e w1 ⟨rfl, rfl⟩
      go_wp2_with fail
      go_ret
      exact ⟨rfl, (by repeat (first | with_reducible exact New.refl _ | with_reducible assumption | with_reducible refine New.drew ?_ | with_reducible refine New.drewN ?_ _ | with_reducible refine New.alloc ?_ _ | with_reducible refine New.setCell ?_ (by first | (simp; done) | (simp; omega) | omega) _ | with_reducible refine New.trans ?_ (by with_reducible assumption)))⟩
    · have hF : tokB 3 s = false := sgn_len h4
      rw [hF]
      have h5 : ((s.size : Int) == 1) = false := by simp; omega
      clear hF
      go_enter Tryd.func108, Tryd.ntmps108
      go_wp2_with fail
      go_ret
      exact ⟨rfl, (by repeat (first | with_reducible exact New.refl _ | with_reducible assumption | with_reducible refine New.drew ?_ | with_reducible refine New.drewN ?_ _ | with_reducible refine New.alloc ?_ _ | with_reducible refine New.setCell ?_ (by first | (simp; done) | (simp; omega) | omega) _ | with_reducible refine New.trans ?_ (by with_reducible assumption)))⟩
  · have hF : tokB k s = false := by rw [tokB, if_neg h1, if_neg h2, if_neg h3]
    rw [hF]
    clear hF
    go_enter Tryd.func108, Tryd.ntmps108
    go_wp2_with fail
    go_ret
    exact ⟨rfl, (by repeat (first | with_reducible exact New.refl _ | with_reducible assumption | with_reducible refine New.drew ?_ | with_reducible refine New.drewN ?_ _ | with_reducible refine New.alloc ?_ _ | with_reducible refine New.setCell ?_ (by first | (simp; done) | (simp; omega) | omega) _ | with_reducible refine New.trans ?_ (by with_reducible assumption)))⟩
set_option maxHeartbeats 1000000 in
theorem sIsToken_any (k : Int) (s : ByteArray) (w : World) (hs : s.size ≤ 1048576) :
    Calls Tryd.prog 104 #[.agg #[.int .i64 k, .string s]] w fun e w' => e = .returned (.bool (tokB k s)) ∧ New w w' := by
  by_cases h1 : k = 1
  · subst h1
    go_enter Tryd.func104, Tryd.ntmps104
    go_wp2_with (first | (go_at_call 133; refine (sWord_any s _ hs).mono ?_; rintro e _ ⟨rfl, rfl⟩))
    go_ret
    exact ⟨rfl, (by repeat (first | with_reducible exact New.refl _ | with_reducible assumption | with_reducible refine New.drew ?_ | with_reducible refine New.drewN ?_ _ | with_reducible refine New.alloc ?_ _ | with_reducible refine New.setCell ?_ (by first | (simp; done) | (simp; omega) | omega) _ | with_reducible refine New.trans ?_ (by with_reducible assumption)))⟩
  by_cases h2 : k = 2
  · subst h2
    have e : tokB 2 s = isNumB s.data.toList := isCnt_num _
    rw [e]
    clear e
    go_enter Tryd.func104, Tryd.ntmps104
    go_wp2_with fail
    refine (sNumber_any s _ hs).mono ?_; rintro e w1 ⟨rfl, b1⟩
    try with_reducible replace b1 := New.undrawN b1
    try with_reducible replace b1 := New.undraw b1
    obtain ⟨c1, f1⟩ := b1.rules
    have z1 := b1.size
    try simp only [World.size_alloc, World.size_drew, World.heap_drewN, World.size_setCell] at z1
    go_wp2_with fail
    go_ret
    exact ⟨rfl, (by repeat (first | with_reducible exact New.refl _ | with_reducible assumption | with_reducible refine New.drew ?_ | with_reducible refine New.drewN ?_ _ | with_reducible refine New.alloc ?_ _ | with_reducible refine New.setCell ?_ (by first | (simp; done) | (simp; omega) | omega) _ | with_reducible refine New.trans ?_ (by with_reducible assumption)))⟩
  by_cases h3 : k = 3
  · subst h3
    go_enter Tryd.func104, Tryd.ntmps104
    go_wp2_with (first | (go_at_call 135; refine (sSign_any s _).mono ?_; rintro e _ ⟨rfl, rfl⟩))
    go_ret
    exact ⟨rfl, (by repeat (first | with_reducible exact New.refl _ | with_reducible assumption | with_reducible refine New.drew ?_ | with_reducible refine New.drewN ?_ _ | with_reducible refine New.alloc ?_ _ | with_reducible refine New.setCell ?_ (by first | (simp; done) | (simp; omega) | omega) _ | with_reducible refine New.trans ?_ (by with_reducible assumption)))⟩
  · have hF : tokB k s = false := by rw [tokB, if_neg h1, if_neg h2, if_neg h3]
    rw [hF]
    clear hF
    go_enter Tryd.func104, Tryd.ntmps104
    go_wp2_with fail
    go_ret
    exact ⟨rfl, (by repeat (first | with_reducible exact New.refl _ | with_reducible assumption | with_reducible refine New.drew ?_ | with_reducible refine New.drewN ?_ _ | with_reducible refine New.alloc ?_ _ | with_reducible refine New.setCell ?_ (by first | (simp; done) | (simp; omega) | omega) _ | with_reducible refine New.trans ?_ (by with_reducible assumption)))⟩
def szK (s : ByteArray) (left : Int) : Int := if left - s.size < 0 then -1 else left - s.size
theorem szToken_any (k : Int) (s : ByteArray) (left : Int) (w : World) (hl : 0 ≤ left) (hl' : left ≤ 1048576) (hs : s.size ≤ 9223372036854775807) :
    Calls Tryd.prog 63 #[.agg #[.int .i64 k, .string s], .int .i64 left] w fun e w' => e = .returned (.int .i64 (szK s left)) ∧ New w w' := by
  go_enter Tryd.func63, Tryd.ntmps63
  by_cases h : left - s.size < 0
  · go_wp2_with fail
    go_ret
    exact ⟨ret_int (by rw [szK, if_pos h]), (by repeat (first | with_reducible exact New.refl _ | with_reducible assumption | with_reducible refine New.drew ?_ | with_reducible refine New.drewN ?_ _ | with_reducible refine New.alloc ?_ _ | with_reducible refine New.setCell ?_ (by first | (simp; done) | (simp; omega) | omega) _ | with_reducible refine New.trans ?_ (by with_reducible assumption)))⟩
  · go_wp2_with fail
    go_ret
    exact ⟨ret_int (by rw [szK, if_neg (Int.not_lt.2 (by assumption))]), (by repeat (first | with_reducible exact New.refl _ | with_reducible assumption | with_reducible refine New.drew ?_ | with_reducible refine New.drewN ?_ _ | with_reducible refine New.alloc ?_ _ | with_reducible refine New.setCell ?_ (by first | (simp; done) | (simp; omega) | omega) _ | with_reducible refine New.trans ?_ (by with_reducible assumption)))⟩
theorem toToken_any (k : Int) (s : ByteArray) (w : World) :
    Calls Tryd.prog 66 #[.agg #[.int .i64 k, .string s]] w fun e w' => e = .returned (.agg #[.int .i64 k, .string s]) ∧ New w w' := by
  go_enter Tryd.func66, Tryd.ntmps66
  go_wp2_with fail
  exact bodyPost_ret (v := .agg #[.int .i64 k, .string s]) (by simp [results, Tryd.results66, go_sem]) rfl ⟨rfl, (by repeat (first | with_reducible exact New.refl _ | with_reducible assumption | with_reducible refine New.drew ?_ | with_reducible refine New.drewN ?_ _ | with_reducible refine New.alloc ?_ _ | with_reducible refine New.setCell ?_ (by first | (simp; done) | (simp; omega) | omega) _ | with_reducible refine New.trans ?_ (by with_reducible assumption)))⟩
end Go.Proofs.YtflhdijlhdckoaaDoor
