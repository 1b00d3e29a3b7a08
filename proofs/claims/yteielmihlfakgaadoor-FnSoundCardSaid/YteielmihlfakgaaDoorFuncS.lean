/- Contracts: the library's searches with a function, at lists of texts. -/
import Derived.Test.YteielmihlfakgaaDoorProg
import Derived.Test.YteielmihlfakgaaDoorStrs
import Derived.Test.YteielmihlfakgaaDoorFunc
namespace Go.Proofs.YteielmihlfakgaaDoor
open Go Go.Proofs Go.RowKit
set_option linter.unusedVariables false
set_option linter.unusedSimpArgs false
set_option maxRecDepth 100000
set_option maxHeartbeats 800000 in
theorem indexFuncS_any (F : FuncId) (caps : Array Value) (p : ByteArray → Bool) (v : Value) (xs : List ByteArray) (w : World) (hv : RdS w v xs)
    (hF : ∀ args w, Sem.run Tryd.prog (callFunc F args) w = .ok (.enter F args) w)
    (hp : ∀ x w1, x ∈ xs → New w w1 → Calls Tryd.prog F (#[.string x] ++ caps) w1 fun e w' => e = .returned (.bool (p x)) ∧ New w1 w') :
    Calls Tryd.prog 141 #[v, .func (.func F) #[] caps] w (RetVal w (.int .i64 (idx p xs))) := by
  obtain ⟨a, cap, rfl, hm, HC⟩ := hv.open
  have HP := Lib.hid hp; clear hp
  go_enter Tryd.func141, Tryd.ntmps141
  go_wp2_with fail
  go_loopw [8] (fun i wr => ∃ k : Nat, k ≤ xs.length ∧ i = .int .i64 k ∧ Hid ((xs.take k).findIdx? p = none) ∧ New w wr) (fun i _ => xs.length - (intOf i).toNat)
  case atStart => exact ⟨0, Nat.zero_le _, rfl, rfl, New.refl _⟩
  case round =>
    obtain ⟨k, hk, rfl, hpre, hb⟩ := hrel
    by_cases hlt : k < xs.length
    · obtain ⟨b, off, rfl, hbl, hx⟩ := HC.out wr hb k hlt
      have HT := Lib.hid (take_find hlt hpre.out)
      clear hv
      go_wp2_with fail
      refine (HP.out xs[k] _ (by simp) hb).mono ?_
      rintro e w2 ⟨rfl, hb2⟩
      go_wp2_with fail
      · have hh : p xs[k] = true := by assumption
        go_ret
        exact ⟨by rw [idx_some (HT.out.1 hh)]; rfl, hb.trans hb2⟩
      · have hh : p xs[k] = false := by assumption
        go_roundw
        case rel => exact ⟨k + 1, by omega, by go_num, Lib.hid (HT.out.2 hh), hb.trans hb2⟩
        case measure => simp [intOf]; omega
    · obtain rfl : k = xs.length := by omega
      go_wp2_with fail
      go_ret
      exact ⟨by rw [idx_none (by simpa using hpre.out)]; rfl, hb⟩
theorem containsFuncS_any (F : FuncId) (caps : Array Value) (p : ByteArray → Bool) (v : Value) (xs : List ByteArray) (w : World) (hv : RdS w v xs)
    (hF : ∀ args w, Sem.run Tryd.prog (callFunc F args) w = .ok (.enter F args) w)
    (hp : ∀ x w1, x ∈ xs → New w w1 → Calls Tryd.prog F (#[.string x] ++ caps) w1 fun e w' => e = .returned (.bool (p x)) ∧ New w1 w') :
    Calls Tryd.prog 101 #[v, .func (.func F) #[] caps] w (RetVal w (.bool (xs.any p))) := by
  have HV := Lib.hid hv; clear hv
  have HP := Lib.hid hp; clear hp
  have HI := Lib.hid (idx_any p xs)
  go_enter Tryd.func101, Tryd.ntmps101
  go_wp2_with fail
  refine (indexFuncS_any F caps p v xs w HV.out hF HP.out).mono ?_
  rintro e w2 ⟨rfl, hb2⟩
  go_wp2_with fail
  go_ret
  exact ⟨ret_bool HI.out, hb2⟩
end Go.Proofs.YteielmihlfakgaaDoor
