/- Contracts: the library's functions on slices that take a function, at lists of numbers. -/
import Derived.Test.YteielmihlfakgaaDoorProg
import Derived.Test.YteielmihlfakgaaDoorBase
namespace Go.Proofs.YteielmihlfakgaaDoor
open Go Go.Proofs Go.RowKit
set_option linter.unusedVariables false
set_option linter.unusedSimpArgs false
set_option maxRecDepth 100000
def RetVal (w : World) (v : Value) (e : Ending) (w' : World) : Prop := e = .returned v ∧ New w w'
def idx {α : Type} (p : α → Bool) (xs : List α) : Int := match xs.findIdx? p with | some i => (i : Int) | none => -1
theorem idx_none {α : Type} {p : α → Bool} {xs : List α} (h : xs.findIdx? p = none) : idx p xs = -1 := by simp [idx, h]
theorem idx_some {α : Type} {p : α → Bool} {xs : List α} {i : Nat} (h : xs.findIdx? p = some i) : idx p xs = i := by simp [idx, h]
theorem idx_any {α : Type} (p : α → Bool) (xs : List α) : decide (0 ≤ idx p xs) = xs.any p := by
  cases h : xs.findIdx? p with
  | none =>
    rw [idx_none h]
    have := List.findIdx?_eq_none_iff.1 h
    have h2 : xs.any p = false := by simpa using this
    rw [h2]; rfl
  | some i =>
    rw [idx_some h]
    obtain ⟨hi, hp, _⟩ := List.findIdx?_eq_some_iff_getElem.1 h
    have h2 : xs.any p = true := List.any_eq_true.2 ⟨xs[i], List.getElem_mem hi, hp⟩
    rw [h2]; simp
theorem take_find {α : Type} {p : α → Bool} {xs : List α} {k : Nat} (hk : k < xs.length) (h : (xs.take k).findIdx? p = none) : (p xs[k] = true → xs.findIdx? p = some k) ∧ (p xs[k] = false → (xs.take (k + 1)).findIdx? p = none) := by
  have h1 := List.findIdx?_eq_none_iff.1 h
  have hlt : ∀ (j : Nat) (hj : j < k), p (xs[j]'(by omega)) = false := fun j hj => by
    have := h1 (xs[j]'(by omega)) (List.mem_iff_getElem.2 ⟨j, by simp; omega, by simp⟩)
    simpa using this
  refine ⟨fun hp => List.findIdx?_eq_some_iff_getElem.2 ⟨hk, hp, fun j hj => by simpa using hlt j hj⟩, fun hp => ?_⟩
  rw [List.findIdx?_eq_none_iff]
  intro x hx
  rw [List.take_succ_eq_append_getElem hk, List.mem_append] at hx
  rcases hx with hx | hx
  · simpa using h1 x hx
  · have : x = xs[k] := by simpa using hx
    rw [this]; simpa using hp
set_option maxHeartbeats 400000 in
theorem indexI_any (x : Int) (v : Value) (xs : List Int) (w : World) (hv : RdI w v xs) :
    Calls Tryd.prog 175 #[v, .int .i64 x] w fun e w' => e = .returned (.int .i64 (idx (fun y => x == y) xs)) ∧ w = w' := by
  obtain ⟨a, cap, rfl, hm, HC⟩ := hv.open
  clear hv
  go_enter Tryd.func175, Tryd.ntmps175
  go_wp2_with fail
  go_loop [8] (fun i => ∃ k : Nat, k ≤ xs.length ∧ i = .int .i64 k ∧ Hid ((xs.take k).findIdx? (fun y => x == y) = none)) (fun i => xs.length - (intOf i).toNat)
  case atStart => exact ⟨0, Nat.zero_le _, rfl, rfl⟩
  case round =>
    obtain ⟨k, hk, rfl, hpre⟩ := hrel
    by_cases hlt : k < xs.length
    · obtain ⟨b, off, rfl, hbl, hx⟩ := HC.out w (New.refl w) k hlt
      have HT := Lib.hid (take_find hlt hpre.out)
      rcases Bool.eq_false_or_eq_true (x == xs[k]) with h1 | h1
      · have HA := Lib.hid (idx_some (HT.out.1 h1))
        go_wp2_with fail
        go_ret
        exact ⟨ret_int HA.out.symm, rfl⟩
      · have HA := Lib.hid (HT.out.2 h1)
        go_wp2_with fail
        go_round
        case rel => exact ⟨k + 1, by omega, by go_num, HA⟩
        case measure => simp [intOf]; omega
    · obtain rfl : k = xs.length := by omega
      have HA := Lib.hid (idx_none (p := fun y => x == y) (xs := xs) (by have := hpre.out; rwa [List.take_length] at this))
      go_wp2_with fail
      go_ret
      exact ⟨ret_int HA.out.symm, rfl⟩
theorem containsI_any (x : Int) (v : Value) (xs : List Int) (w : World) (hv : RdI w v xs) :
    Calls Tryd.prog 169 #[v, .int .i64 x] w fun e w' => e = .returned (.bool (xs.any fun y => x == y)) ∧ w = w' := by
  have HV := Lib.hid hv; clear hv
  have HI := Lib.hid (idx_any (fun y => x == y) xs)
  go_enter Tryd.func169, Tryd.ntmps169
  go_wp2_with fail
  refine (indexI_any x v xs w HV.out).mono ?_
  rintro e w2 ⟨rfl, rfl⟩
  go_wp2_with fail
  go_ret
  exact ⟨ret_bool HI.out, rfl⟩
end Go.Proofs.YteielmihlfakgaaDoor
