/- Contracts: the library's searches with a method's value, at lists of lines. -/
import Derived.Test.YteielmihlfakgaaGreatDoorProg
import Derived.Test.YteielmihlfakgaaGreatDoorVC
import Derived.Test.YteielmihlfakgaaGreatDoorVB
import Derived.Test.YteielmihlfakgaaGreatDoorSound2
namespace Go.Proofs.YteielmihlfakgaaGreatDoor
open Go Go.Proofs Go.RowKit
set_option linter.unusedVariables false
set_option linter.unusedSimpArgs false
set_option maxRecDepth 100000
set_option maxHeartbeats 800000 in
theorem indexFuncLnB_any (F : FuncId) (recv : Value) (p : LineD → Bool) (v : Value) (ls : List LineD) (w : World) (hv : RdLn w v ls)
    (hF : ∀ args w, Sem.run Tryz.prog (callFunc F args) w = .ok (.enter F args) w)
    (hp : ∀ (x : LineD) (tv : Value) w1, x ∈ ls → New w w1 → Rd w1 tv x.terms.length (x.terms.flatMap encTerm) → Calls Tryz.prog F #[recv, .agg #[.string x.target, tv]] w1 fun e w' => e = .returned (.bool (p x)) ∧ New w1 w') :
    Calls Tryz.prog 139 #[v, .func (.func F) #[recv] #[]] w (RetVal w (.int .i64 (idx p ls))) := by
  obtain ⟨ps, rfl, h1, h2⟩ := hv
  obtain ⟨a, cap, rfl, hm, HC⟩ := Rd.flat encLV_len (by omega) h1
  clear h1
  have HP := Lib.hid (fun (x : LV) w1 (hx : x ∈ ps) (n : New w w1) => hp x.1 x.2 w1 (List.mem_map_of_mem hx) n ((h2 x hx).new n)); clear hp h2
  rw [← idx_map]
  generalize hpp : (fun x : LV => p x.1) = pp
  replace HP : Hid (∀ (x : LV) w1 (hx : x ∈ ps) (n : New w w1), Calls Tryz.prog F #[recv, .agg #[.string x.1.target, x.2]] w1 fun e w' => e = .returned (.bool (pp x)) ∧ New w1 w') := by subst hpp; exact HP
  clear hpp
  go_enter Tryz.func139, Tryz.ntmps139
  go_wp2_with fail
  go_loopw [8] (fun i wr => ∃ k : Nat, k ≤ ps.length ∧ i = .int .i64 k ∧ Hid ((ps.take k).findIdx? pp = none) ∧ New w wr) (fun i _ => ps.length - (intOf i).toNat)
  case atStart => exact ⟨0, Nat.zero_le _, rfl, rfl, New.refl _⟩
  case round =>
    obtain ⟨k, hk, rfl, hpre, hb⟩ := hrel
    obtain ⟨c, f⟩ := hb.rules
    by_cases hlt : k < ps.length
    · obtain ⟨b, off, rfl, hbl, hx⟩ := HC.out k hlt
      have x0 := hx 0 _ (by omega) rfl
      have x1 := hx 1 _ (by omega) rfl
      rw [Nat.add_zero] at x0
      replace hx := Lib.hid hx
      have HT := Lib.hid (take_find hlt hpre.out)
      go_wp2_with fail
      refine (HP.out ps[k] _ (by simp) hb).mono ?_
      rintro e w2 ⟨rfl, hb2⟩
      go_wp2_with fail
      · have hh : pp ps[k] = true := by assumption
        go_ret
        exact ⟨by rw [idx_some (HT.out.1 hh)]; rfl, hb.trans hb2⟩
      · have hh : pp ps[k] = false := by assumption
        go_roundw
        case rel => exact ⟨k + 1, by omega, by go_num, Lib.hid (HT.out.2 hh), hb.trans hb2⟩
        case measure => simp [intOf]; omega
    · obtain rfl : k = ps.length := by omega
      go_wp2_with fail
      go_ret
      exact ⟨by rw [idx_none (by simpa using hpre.out)]; rfl, hb⟩
theorem containsFuncLnB_any (F : FuncId) (recv : Value) (p : LineD → Bool) (v : Value) (ls : List LineD) (w : World) (hv : RdLn w v ls)
    (hF : ∀ args w, Sem.run Tryz.prog (callFunc F args) w = .ok (.enter F args) w)
    (hp : ∀ (x : LineD) (tv : Value) w1, x ∈ ls → New w w1 → Rd w1 tv x.terms.length (x.terms.flatMap encTerm) → Calls Tryz.prog F #[recv, .agg #[.string x.target, tv]] w1 fun e w' => e = .returned (.bool (p x)) ∧ New w1 w') :
    Calls Tryz.prog 98 #[v, .func (.func F) #[recv] #[]] w (RetVal w (.bool (ls.any p))) := by
  have HV := Lib.hid hv; clear hv
  have HP := Lib.hid hp; clear hp
  have HI := Lib.hid (idx_any p ls)
  go_enter Tryz.func98, Tryz.ntmps98
  go_wp2_with fail
  refine (indexFuncLnB_any F recv p v ls w HV.out hF HP.out).mono ?_
  rintro e w2 ⟨rfl, hb2⟩
  go_wp2_with fail
  go_ret
  exact ⟨ret_bool HI.out, hb2⟩
end Go.Proofs.YteielmihlfakgaaGreatDoor
/- Contracts: the library's searches on lists of terms. -/
namespace Go.Proofs.YteielmihlfakgaaGreatDoor
open Go Go.Proofs Go.RowKit
set_option linter.unusedVariables false
set_option linter.unusedSimpArgs false
set_option maxRecDepth 100000
set_option maxHeartbeats 800000 in
theorem indexFuncTerm_any (F : FuncId) (caps : Array Value) (p : ETerm → Bool) (v : Value) (xs : List ETerm) (w : World) (hv : Rd w v xs.length (xs.flatMap encTerm))
    (hF : ∀ args w, Sem.run Tryz.prog (callFunc F args) w = .ok (.enter F args) w)
    (hp : ∀ x w1, x ∈ xs → New w w1 → Calls Tryz.prog F (#[.agg #[.int .i64 x.kind, .string x.name, .int .i64 x.num]] ++ caps) w1 fun e w' => e = .returned (.bool (p x)) ∧ New w1 w') :
    Calls Tryz.prog 80 #[v, .func (.func F) #[] caps] w (RetVal w (.int .i64 (idx p xs))) := by
  obtain ⟨a, cap, rfl, hm, HC⟩ := Rd.flat encTerm_len (by omega) hv
  have HP := Lib.hid hp; clear hp
  go_enter Tryz.func80, Tryz.ntmps80
  go_wp2_with fail
  go_loopw [8] (fun i wr => ∃ k : Nat, k ≤ xs.length ∧ i = .int .i64 k ∧ Hid ((xs.take k).findIdx? p = none) ∧ New w wr) (fun i _ => xs.length - (intOf i).toNat)
  case atStart => exact ⟨0, Nat.zero_le _, rfl, rfl, New.refl _⟩
  case round =>
    obtain ⟨k, hk, rfl, hpre, hb⟩ := hrel
    obtain ⟨c, f⟩ := hb.rules
    by_cases hlt : k < xs.length
    · obtain ⟨b, off, rfl, hbl, hx⟩ := HC.out k hlt
      have x0 := hx 0 _ (by omega) rfl
      have x1 := hx 1 _ (by omega) rfl
      have x2 := hx 2 _ (by omega) rfl
      rw [Nat.add_zero] at x0
      replace hx := Lib.hid hx
      have HT := Lib.hid (take_find hlt hpre.out)
      clear hv
      go_wp2_with fail
      refine (HP.out xs[k] _ (by simp) hb).mono ?_
      rintro e w2 ⟨rfl, hb2⟩
      go_wp2_with fail
      · have hh : p xs[k] = true := by assumption
        go_ret
        exact ⟨by rw [idx_some (HT.out.1 hh)]; rfl, hb.trans hb2⟩
      · have hh : p xs[k] = false := by assumption
        go_roundw
        case rel => exact ⟨k + 1, by omega, by go_num, Lib.hid (HT.out.2 hh), hb.trans hb2⟩
        case measure => simp [intOf]; omega
    · obtain rfl : k = xs.length := by omega
      go_wp2_with fail
      go_ret
      exact ⟨by rw [idx_none (by simpa using hpre.out)]; rfl, hb⟩
theorem containsFuncTerm_any (F : FuncId) (caps : Array Value) (p : ETerm → Bool) (v : Value) (xs : List ETerm) (w : World) (hv : Rd w v xs.length (xs.flatMap encTerm))
    (hF : ∀ args w, Sem.run Tryz.prog (callFunc F args) w = .ok (.enter F args) w)
    (hp : ∀ x w1, x ∈ xs → New w w1 → Calls Tryz.prog F (#[.agg #[.int .i64 x.kind, .string x.name, .int .i64 x.num]] ++ caps) w1 fun e w' => e = .returned (.bool (p x)) ∧ New w1 w') :
    Calls Tryz.prog 45 #[v, .func (.func F) #[] caps] w (RetVal w (.bool (xs.any p))) := by
  have HV := Lib.hid hv; clear hv
  have HP := Lib.hid hp; clear hp
  have HI := Lib.hid (idx_any p xs)
  go_enter Tryz.func45, Tryz.ntmps45
  go_wp2_with fail
  refine (indexFuncTerm_any F caps p v xs w HV.out hF HP.out).mono ?_
  rintro e w2 ⟨rfl, hb2⟩
  go_wp2_with fail
  go_ret
  exact ⟨ret_bool HI.out, hb2⟩
end Go.Proofs.YteielmihlfakgaaGreatDoor
/- Contracts: the rules of programs: searches. -/
namespace Go.Proofs.YteielmihlfakgaaGreatDoor
open Go Go.Proofs Go.RowKit
set_option linter.unusedVariables false
set_option linter.unusedSimpArgs false
set_option maxRecDepth 100000
end Go.Proofs.YteielmihlfakgaaGreatDoor
/- Contracts: the rules of programs: the reference's own function. -/
namespace Go.Proofs.YteielmihlfakgaaGreatDoor
open Go Go.Proofs Go.RowKit
set_option linter.unusedVariables false
set_option linter.unusedSimpArgs false
set_option maxRecDepth 100000
theorem faultS_1 {p : ProgD} (h : twB (allP p) = true) : faultS p = 1 := by rw [faultS, if_pos h]
theorem faultS_2 {p : ProgD} (h : twB (allP p) = false) (h2 : bad2 p = true) : faultS p = 2 := by rw [faultS, if_neg (by simp [h]), if_pos h2]
theorem faultS_3 {p : ProgD} (h : twB (allP p) = false) (h2 : bad2 p = false) (h3 : (targetsP p).any (out3 p) = true) : faultS p = 3 := by
  rw [faultS, if_neg (by simp [h]), if_neg (by simp [h2]), if_pos h3]
theorem faultS_4 {p : ProgD} (h : twB (allP p) = false) (h2 : bad2 p = false) (h3 : (targetsP p).any (out3 p) = false) (h4 : twB (targetsP p) = true) : faultS p = 4 := by
  rw [faultS, if_neg (by simp [h]), if_neg (by simp [h2]), if_neg (by rw [h3]; simp), if_pos h4]
theorem faultS_5 {p : ProgD} (h : twB (allP p) = false) (h2 : bad2 p = false) (h3 : (targetsP p).any (out3 p) = false) (h4 : twB (targetsP p) = false) (h5 : (targetsP p).length < p.vars.length + p.outputs.length) : faultS p = 5 := by
  rw [faultS, if_neg (by simp [h]), if_neg (by simp [h2]), if_neg (by rw [h3]; simp), if_neg (by simp [h4]), if_pos h5]
theorem faultS_6 {p : ProgD} (h : twB (allP p) = false) (h2 : bad2 p = false) (h3 : (targetsP p).any (out3 p) = false) (h4 : twB (targetsP p) = false) (h5 : ¬ (targetsP p).length < p.vars.length + p.outputs.length) (h6 : p.lines.any (unkL p) = true) : faultS p = 6 := by
  rw [faultS, if_neg (by simp [h]), if_neg (by simp [h2]), if_neg (by rw [h3]; simp), if_neg (by simp [h4]), if_neg h5, if_pos h6]
theorem faultS_0 {p : ProgD} (h : twB (allP p) = false) (h2 : bad2 p = false) (h3 : (targetsP p).any (out3 p) = false) (h4 : twB (targetsP p) = false) (h5 : ¬ (targetsP p).length < p.vars.length + p.outputs.length) (h6 : p.lines.any (unkL p) = false) : faultS p = 0 := by
  rw [faultS, if_neg (by simp [h]), if_neg (by simp [h2]), if_neg (by rw [h3]; simp), if_neg (by simp [h4]), if_neg h5, if_neg (by rw [h6]; simp)]
theorem targets_len (p : ProgD) : (targetsP p).length = p.lines.length := by simp [targetsP]
theorem targets_take {p : ProgD} {ps : List LV} (h : ps.map Prod.fst = p.lines) (k : Nat) (hk : k < ps.length) : (targetsP p).take (k + 1) = (targetsP p).take k ++ [ps[k].1.target] := by
  have e : targetsP p = ps.map (fun q => q.1.target) := by rw [targetsP, ← h, List.map_map]; rfl
  rw [e, List.take_succ_eq_append_getElem (by simpa using hk)]; simp
theorem any_snoc {α : Type} (f : α → Bool) (xs : List α) (x : α) : (xs ++ [x]).any f = (xs.any f || f x) := by simp
theorem any_prefix {α : Type} {f : α → Bool} {xs ys : List α} (h : xs.any f = true) (e : ∃ zs, xs ++ zs = ys) : ys.any f = true := by
  obtain ⟨zs, rfl⟩ := e
  rw [List.any_append, h]; rfl
end Go.Proofs.YteielmihlfakgaaGreatDoor
/- Contracts: the rules of programs: the program's own function. -/
namespace Go.Proofs.YteielmihlfakgaaGreatDoor
open Go Go.Proofs Go.RowKit
set_option linter.unusedVariables false
set_option linter.unusedSimpArgs false
set_option maxRecDepth 100000
theorem faultI_1 {p : ProgD} (h : twB (allP p) = true) : faultI p = 1 := by rw [faultI, if_pos h]
theorem faultI_2 {p : ProgD} (h : twB (allP p) = false) (h2 : bad2 p = true) : faultI p = 2 := by rw [faultI, if_neg (by simp [h]), if_pos h2]
theorem faultI_3 {p : ProgD} (h : twB (allP p) = false) (h2 : bad2 p = false) (h3 : (targetsP p).any (out3 p) = true) : faultI p = 3 := by
  rw [faultI, if_neg (by simp [h]), if_neg (by simp [h2]), if_pos h3]
theorem faultI_4 {p : ProgD} (h : twB (allP p) = false) (h2 : bad2 p = false) (h3 : (targetsP p).any (out3 p) = false) (h4 : twB (targetsP p) = true) : faultI p = 4 := by
  rw [faultI, if_neg (by simp [h]), if_neg (by simp [h2]), if_neg (by rw [h3]; simp), if_pos h4]
theorem faultI_5 {p : ProgD} (h : twB (allP p) = false) (h2 : bad2 p = false) (h3 : (targetsP p).any (out3 p) = false) (h4 : twB (targetsP p) = false) (h5 : (madeP p).any (fun s => !memS (targetsP p) s) = true) : faultI p = 5 := by
  rw [faultI, if_neg (by simp [h]), if_neg (by simp [h2]), if_neg (by rw [h3]; simp), if_neg (by simp [h4]), if_pos h5]
theorem faultI_6 {p : ProgD} (h : twB (allP p) = false) (h2 : bad2 p = false) (h3 : (targetsP p).any (out3 p) = false) (h4 : twB (targetsP p) = false) (h5 : (madeP p).any (fun s => !memS (targetsP p) s) = false) (h6 : p.lines.any (unkL p) = true) : faultI p = 6 := by
  rw [faultI, if_neg (by simp [h]), if_neg (by simp [h2]), if_neg (by rw [h3]; simp), if_neg (by simp [h4]), if_neg (by rw [h5]; simp), if_pos h6]
theorem faultI_0 {p : ProgD} (h : twB (allP p) = false) (h2 : bad2 p = false) (h3 : (targetsP p).any (out3 p) = false) (h4 : twB (targetsP p) = false) (h5 : (madeP p).any (fun s => !memS (targetsP p) s) = false) (h6 : p.lines.any (unkL p) = false) : faultI p = 0 := by
  rw [faultI, if_neg (by simp [h]), if_neg (by simp [h2]), if_neg (by rw [h3]; simp), if_neg (by simp [h4]), if_neg (by rw [h5]; simp), if_neg (by rw [h6]; simp)]
theorem frozen_past {w : World} {a : Addr} (h : w.heap.size ≤ a.block) : w.frozen? a = false := by unfold World.frozen?; rw [Array.getElem?_eq_none h]
end Go.Proofs.YteielmihlfakgaaGreatDoor
/- Contracts: is a program sound; the line of a name. -/
namespace Go.Proofs.YteielmihlfakgaaGreatDoor
open Go Go.Proofs Go.RowKit
set_option linter.unusedVariables false
set_option linter.unusedSimpArgs false
set_option maxRecDepth 100000
def pfR (p : ProgD) : Int × Int := if wB p = true then (faultS p, 0) else (0, 1)
def soundB (p : ProgD) : Bool := wB p && decide (faultS p = 0)
def codeR (p : ProgD) : Int := if wB p = true then (if faultS p = 0 then 0 else 5) else 1
def lineIdx (p : ProgD) (s : ByteArray) : Int := idx (fun l => l.target.toList == s.toList) p.lines
def lineR (p : ProgD) (s : ByteArray) : Int × Int := if wB p = true then (if lineIdx p s < 0 then (0, 4) else (lineIdx p s, 0)) else (0, 1)
theorem pfR_1 {p : ProgD} (h : wB p = true) : pfR p = (faultS p, 0) := by rw [pfR, if_pos h]
theorem pfR_0 {p : ProgD} (h : wB p = false) : pfR p = (0, 1) := by rw [pfR, if_neg (by simp [h])]
theorem codeR_0 {p : ProgD} (h : wB p = false) : codeR p = 1 := by rw [codeR, if_neg (by simp [h])]
theorem codeR_5 {p : ProgD} (h : wB p = true) (h2 : faultS p ≠ 0) : codeR p = 5 := by rw [codeR, if_pos h, if_neg h2]
theorem codeR_1 {p : ProgD} (h : wB p = true) (h2 : faultS p = 0) : codeR p = 0 := by rw [codeR, if_pos h, if_pos h2]
theorem lineR_0 {p : ProgD} {s : ByteArray} (h : wB p = false) : lineR p s = (0, 1) := by rw [lineR, if_neg (by simp [h])]
theorem lineR_4 {p : ProgD} {s : ByteArray} (h : wB p = true) (h2 : lineIdx p s < 0) : lineR p s = (0, 4) := by rw [lineR, if_pos h, if_pos h2]
theorem lineR_1 {p : ProgD} {s : ByteArray} (h : wB p = true) (h2 : ¬ lineIdx p s < 0) : lineR p s = (lineIdx p s, 0) := by rw [lineR, if_pos h, if_neg h2]
end Go.Proofs.YteielmihlfakgaaGreatDoor
