/- Contracts: the library's functions on slices that take a function, at lists of numbers. -/
import Derived.Test.YtommolbkcjpjhaaDoorProg
import Derived.Test.YtommolbkcjpjhaaDoorBase
namespace Go.Proofs.YtommolbkcjpjhaaDoor
open Go Go.Proofs Go.RowKit
set_option linter.unusedVariables false
set_option linter.unusedSimpArgs false
set_option maxRecDepth 100000
def RetVal (w : World) (v : Value) (e : Ending) (w' : World) : Prop := e = .returned v ∧ New w w'
def idx {α : Type} (p : α → Bool) (xs : List α) : Int := match xs.findIdx? p with | some i => (i : Int) | none => -1
theorem idx_none {α : Type} {p : α → Bool} {xs : List α} (h : xs.findIdx? p = none) : idx p xs = -1 := by simp [idx, h]
theorem idx_some {α : Type} {p : α → Bool} {xs : List α} {i : Nat} (h : xs.findIdx? p = some i) : idx p xs = i := by simp [idx, h]
theorem idx_any {α : Type} (p : α → Bool) (xs : List α) : decide (0 ≤ idx p xs) = xs.any p := by
  cases h : xs.findIdx? p with
  | none =>
    rw [idx_none h]
    have := List.findIdx?_eq_none_iff.1 h
    have h2 : xs.any p = false := by simpa using this
    rw [h2]; rfl
  | some i =>
    rw [idx_some h]
    obtain ⟨hi, hp, _⟩ := List.findIdx?_eq_some_iff_getElem.1 h
    have h2 : xs.any p = true := List.any_eq_true.2 ⟨xs[i], List.getElem_mem hi, hp⟩
    rw [h2]; simp
theorem take_find {α : Type} {p : α → Bool} {xs : List α} {k : Nat} (hk : k < xs.length) (h : (xs.take k).findIdx? p = none) : (p xs[k] = true → xs.findIdx? p = some k) ∧ (p xs[k] = false → (xs.take (k + 1)).findIdx? p = none) := by
  have h1 := List.findIdx?_eq_none_iff.1 h
  have hlt : ∀ (j : Nat) (hj : j < k), p (xs[j]'(by omega)) = false := fun j hj => by
    have := h1 (xs[j]'(by omega)) (List.mem_iff_getElem.2 ⟨j, by simp; omega, by simp⟩)
    simpa using this
  refine ⟨fun hp => List.findIdx?_eq_some_iff_getElem.2 ⟨hk, hp, fun j hj => by simpa using hlt j hj⟩, fun hp => ?_⟩
  rw [List.findIdx?_eq_none_iff]
  intro x hx
  rw [List.take_succ_eq_append_getElem hk, List.mem_append] at hx
  rcases hx with hx | hx
  · simpa using h1 x hx
  · have : x = xs[k] := by simpa using hx
    rw [this]; simpa using hp
set_option maxHeartbeats 400000 in
theorem indexFuncI_any (F : FuncId) (caps : Array Value) (p : Int → Bool) (v : Value) (xs : List Int) (w : World) (hv : RdI w v xs)
    (hF : ∀ args w, Sem.run Tryd.prog (callFunc F args) w = .ok (.enter F args) w)
    (hp : ∀ x w1, x ∈ xs → New w w1 → Calls Tryd.prog F (#[.int .i64 x] ++ caps) w1 fun e w' => e = .returned (.bool (p x)) ∧ New w1 w') :
    Calls Tryd.prog 45 #[v, .func (.func F) #[] caps] w (RetVal w (.int .i64 (idx p xs))) := by
  obtain ⟨a, cap, rfl, hm, HC⟩ := hv.open
  have HP := Lib.hid hp; clear hp
  go_enter Tryd.func45, Tryd.ntmps45
  go_wp2_with fail
  go_loopw [8] (fun i wr => ∃ k : Nat, k ≤ xs.length ∧ i = .int .i64 k ∧ Hid ((xs.take k).findIdx? p = none) ∧ New w wr) (fun i _ => xs.length - (intOf i).toNat)
  case atStart => exact ⟨0, Nat.zero_le _, rfl, rfl, New.refl _⟩
  case round =>
    obtain ⟨k, hk, rfl, hpre, hb⟩ := hrel
    by_cases hlt : k < xs.length
    · obtain ⟨b, off, rfl, hbl, hx⟩ := HC.out wr hb k hlt
      have HT := Lib.hid (take_find hlt hpre.out)
      clear hv
      go_wp2_with fail
      refine (HP.out xs[k] _ (by simp) hb).mono ?_
      rintro e w2 ⟨rfl, hb2⟩
      go_wp2_with fail
      · have hh : p xs[k] = true := by assumption
        go_ret
        exact ⟨by rw [idx_some (HT.out.1 hh)]; rfl, hb.trans hb2⟩
      · have hh : p xs[k] = false := by assumption
        go_roundw
        case rel => exact ⟨k + 1, by omega, by go_num, Lib.hid (HT.out.2 hh), hb.trans hb2⟩
        case measure => simp [intOf]; omega
    · obtain rfl : k = xs.length := by omega
      go_wp2_with fail
      go_ret
      exact ⟨by rw [idx_none (by simpa using hpre.out)]; rfl, hb⟩
theorem containsFuncI_any (F : FuncId) (caps : Array Value) (p : Int → Bool) (v : Value) (xs : List Int) (w : World) (hv : RdI w v xs)
    (hF : ∀ args w, Sem.run Tryd.prog (callFunc F args) w = .ok (.enter F args) w)
    (hp : ∀ x w1, x ∈ xs → New w w1 → Calls Tryd.prog F (#[.int .i64 x] ++ caps) w1 fun e w' => e = .returned (.bool (p x)) ∧ New w1 w') :
    Calls Tryd.prog 38 #[v, .func (.func F) #[] caps] w (RetVal w (.bool (xs.any p))) := by
  have HV := Lib.hid hv; clear hv
  have HP := Lib.hid hp; clear hp
  have HI := Lib.hid (idx_any p xs)
  go_enter Tryd.func38, Tryd.ntmps38
  go_wp2_with fail
  refine (indexFuncI_any F caps p v xs w HV.out hF HP.out).mono ?_
  rintro e w2 ⟨rfl, hb2⟩
  go_wp2_with fail
  go_ret
  exact ⟨ret_bool HI.out, hb2⟩
end Go.Proofs.YtommolbkcjpjhaaDoor
