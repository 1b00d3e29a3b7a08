/- Contracts: traffics. -/
import Derived.Test.YtommolbkcjpjhaaDoorProg
import Derived.Test.YtommolbkcjpjhaaDoorNum
import Derived.Test.YtommolbkcjpjhaaDoorInts
import Derived.Test.YtommolbkcjpjhaaDoorFunc
namespace Go.Proofs.YtommolbkcjpjhaaDoor
open Go Go.Proofs Go.RowKit
set_option linter.unusedVariables false
set_option linter.unusedSimpArgs false
set_option maxRecDepth 100000
def isTraf (b : Int) (ps : List Int) : Bool := inB b 2 8 && inB (ps.length : Int) 1 4 && !(ps.any fun p => !inB p 0 (3 * b - 1))
theorem lengthI_any (v : Value) (n : Nat) (cs : List Value) (w : World) (hv : Rd w v n cs) : Calls Tryd.prog 37 #[v] w fun e w' => e = .returned (.int .i64 n) ∧ w = w' := by
  obtain ⟨a, cap, rfl, hn, h0, hc⟩ := hv
  go_enter Tryd.func37, Tryd.ntmps37
  go_wp2_with fail
  go_ret
  exact ⟨rfl, rfl⟩
theorem eqTraffic_any (b b' : Int) (v v' : Value) (ps ps' : List Int) (w : World) (hv : RdI w v ps) (hv' : RdI w v' ps') :
    Calls Tryd.prog 13 #[.agg #[.int .i64 b, v], .agg #[.int .i64 b', v']] w fun e w' => e = .returned (.bool (decide (b = b' ∧ ps = ps'))) ∧ New w w' := by
  rcases Bool.eq_false_or_eq_true ((b != b')) with h1 | h1
  · go_enter Tryd.func13, Tryd.ntmps13
    go_wp2_with fail
    go_ret
    exact ⟨ret_bool (by simp at h1; simp [h1]), (by repeat (first | with_reducible exact New.refl _ | with_reducible assumption | with_reducible refine New.drew ?_ | with_reducible refine New.drewN ?_ _ | with_reducible refine New.alloc ?_ _ | with_reducible refine New.setCell ?_ (by first | (simp; done) | (simp; omega) | omega) _ | with_reducible refine New.trans ?_ (by with_reducible assumption)))⟩
  go_enter Tryd.func13, Tryd.ntmps13
  go_wp2_with fail
  refine (eqInt64S_any _ _ ps ps' _ ?_ ?_).mono ?_
  · exact hv.new (by repeat (first | with_reducible exact New.refl _ | with_reducible assumption | with_reducible refine New.drew ?_ | with_reducible refine New.drewN ?_ _ | with_reducible refine New.alloc ?_ _ | with_reducible refine New.setCell ?_ (by first | (simp; done) | (simp; omega) | omega) _ | with_reducible refine New.trans ?_ (by with_reducible assumption)))
  · exact hv'.new (by repeat (first | with_reducible exact New.refl _ | with_reducible assumption | with_reducible refine New.drew ?_ | with_reducible refine New.drewN ?_ _ | with_reducible refine New.alloc ?_ _ | with_reducible refine New.setCell ?_ (by first | (simp; done) | (simp; omega) | omega) _ | with_reducible refine New.trans ?_ (by with_reducible assumption)))
  rintro e w1 ⟨rfl, n, rfl⟩
  go_wp2_with fail
  all_goals (go_ret; exact ⟨ret_bool (by have := h1; simp_all), (by repeat (first | with_reducible exact New.refl _ | with_reducible assumption | with_reducible refine New.drew ?_ | with_reducible refine New.drewN ?_ _ | with_reducible refine New.alloc ?_ _ | with_reducible refine New.setCell ?_ (by first | (simp; done) | (simp; omega) | omega) _ | with_reducible refine New.trans ?_ (by with_reducible assumption)))⟩)
set_option maxHeartbeats 800000 in
theorem sIsTraffic_any (b : Int) (v : Value) (ps : List Int) (w : World) (hv : RdI w v ps) :
    Calls Tryd.prog 29 #[.agg #[.int .i64 b, v]] w fun e w' => e = .returned (.bool (isTraf b ps)) ∧ New w w' := by
  obtain ⟨a, cap, rfl, hm, HC⟩ := hv.open
  clear hv
  rcases Bool.eq_false_or_eq_true (inB b 2 8) with h1 | h1; rotate_left
  · go_enter Tryd.func29, Tryd.ntmps29
    go_wp2_with (go_at_call 44; refine (l01In_any _ _ _ _).mono ?_; rintro e w' ⟨rfl, rfl⟩)
    go_ret
    exact ⟨ret_bool (by simp [isTraf, h1]), (by repeat (first | with_reducible exact New.refl _ | with_reducible assumption | with_reducible refine New.drew ?_ | with_reducible refine New.drewN ?_ _ | with_reducible refine New.alloc ?_ _ | with_reducible refine New.setCell ?_ (by first | (simp; done) | (simp; omega) | omega) _ | with_reducible refine New.trans ?_ (by with_reducible assumption)))⟩
  rcases Bool.eq_false_or_eq_true (inB (ps.length : Int) 1 4) with h2 | h2; rotate_left
  · go_enter Tryd.func29, Tryd.ntmps29
    go_wp2_with (go_at_call 44; refine (l01In_any _ _ _ _).mono ?_; rintro e w' ⟨rfl, rfl⟩)
    go_ret
    exact ⟨ret_bool (by simp [isTraf, h1, h2]), (by repeat (first | with_reducible exact New.refl _ | with_reducible assumption | with_reducible refine New.drew ?_ | with_reducible refine New.drewN ?_ _ | with_reducible refine New.alloc ?_ _ | with_reducible refine New.setCell ?_ (by first | (simp; done) | (simp; omega) | omega) _ | with_reducible refine New.trans ?_ (by with_reducible assumption)))⟩
  have b1 := inB_iff.1 h1
  have b2 := inB_iff.1 h2
  have e1 : IntKind.i64.wrap (3 * b) = 3 * b := IntWalk.i64_in _ (by omega)
  have e2 : IntKind.i64.wrap (3 * b - 1) = 3 * b - 1 := IntWalk.i64_in _ (by omega)
  go_enter Tryd.func29, Tryd.ntmps29
  go_wp2_with (go_at_call 44; refine (l01In_any _ _ _ _).mono ?_; rintro e w' ⟨rfl, rfl⟩)
  go_loopw [3] (fun i wr => ∃ k : Nat, k ≤ ps.length ∧ i = .int .i64 k ∧ Hid (((ps.take k).any fun p => !inB p 0 (3 * b - 1)) = false) ∧ New (w.alloc (.cells #[.int .i64 b, .slice a ps.length cap] 26)) wr) (fun i _ => ps.length - (intOf i).toNat)
  case atStart => exact ⟨0, Nat.zero_le _, rfl, rfl, New.refl _⟩
  case round =>
    obtain ⟨k, hk, rfl, hpre, hb⟩ := hrel
    obtain ⟨c, f⟩ := hb.rules
    by_cases hlt : k < ps.length
    · obtain ⟨b', off, rfl, hbl, hx⟩ := HC.out w (New.refl w) k hlt
      clear b1 b2
      rcases Bool.eq_false_or_eq_true (inB ps[k] 0 (3 * b - 1)) with h3 | h3
      · have HA := Lib.hid (any_take hlt hpre.out (by simp [h3]))
        go_wp2_with fail
        go_quiet ((go_at_call 44; exact quiet_eq (l01In_any _ _ _ _)))
        go_wp2_with fail
        go_roundw
        case rel => exact ⟨k + 1, by omega, by go_num, HA, (by repeat (first | with_reducible exact New.refl _ | with_reducible assumption | with_reducible refine New.drew ?_ | with_reducible refine New.drewN ?_ _ | with_reducible refine New.alloc ?_ _ | with_reducible refine New.setCell ?_ (by first | (simp; done) | (simp; omega) | omega) _ | with_reducible refine New.trans ?_ (by with_reducible assumption)))⟩
        case measure => simp [intOf]; omega
      · have HA := Lib.hid (any_at (p := fun p => !inB p 0 (3 * b - 1)) hlt (by simp [h3]))
        go_wp2_with fail
        go_quiet ((go_at_call 44; exact quiet_eq (l01In_any _ _ _ _)))
        go_wp2_with fail
        go_ret
        exact ⟨ret_bool (by simp only [isTraf, h1, h2, HA.out]; rfl), (by repeat (first | with_reducible exact New.refl _ | with_reducible assumption | with_reducible refine New.drew ?_ | with_reducible refine New.drewN ?_ _ | with_reducible refine New.alloc ?_ _ | with_reducible refine New.setCell ?_ (by first | (simp; done) | (simp; omega) | omega) _ | with_reducible refine New.trans ?_ (by with_reducible assumption)))⟩
    · obtain rfl : k = ps.length := by omega
      go_wp2_with fail
      go_ret
      exact ⟨ret_bool (by simp only [isTraf, h1, h2, any_take_all hpre.out]; rfl), (by repeat (first | with_reducible exact New.refl _ | with_reducible assumption | with_reducible refine New.drew ?_ | with_reducible refine New.drewN ?_ _ | with_reducible refine New.alloc ?_ _ | with_reducible refine New.setCell ?_ (by first | (simp; done) | (simp; omega) | omega) _ | with_reducible refine New.trans ?_ (by with_reducible assumption)))⟩
theorem iIsTraffic1_any (p b b0 : Int) (blk : Nat) (v : Value) (w : World) (hc : w.cell? ⟨blk, 0, none⟩ = some (.int .i64 b)) (hb : 2 ≤ b ∧ b ≤ 8) :
    Calls Tryd.prog 39 #[.int .i64 p, .pointer (some ⟨blk, 0, none⟩)] w fun e w' => e = .returned (.bool (!inB p 0 (3 * b - 1))) ∧ w = w' := by
  go_enter Tryd.func39, Tryd.ntmps39
  go_wp2_with (go_at_call 22; refine (within_any _ _ _ _).mono ?_; rintro e w' ⟨rfl, rfl⟩)
  go_ret
  exact ⟨rfl, rfl⟩
set_option maxHeartbeats 800000 in
theorem iIsTraffic_any (b : Int) (v : Value) (ps : List Int) (w : World) (hv : RdI w v ps) :
    Calls Tryd.prog 18 #[.agg #[.int .i64 b, v]] w fun e w' => e = .returned (.bool (isTraf b ps)) ∧ New w w' := by
  have hmf : ∀ (fn : Fn) (first cap : Array Value) (w : World), (Instr.makeFunc fn first cap).run Tryd.prog w = .ok (.func fn first cap) w := fun _ _ _ _ => rfl
  rcases Bool.eq_false_or_eq_true (inB b 2 8) with h1 | h1; rotate_left
  · go_enter Tryd.func18, Tryd.ntmps18
    go_wp2_with fail
    refine (isBlockCount_any _ _).mono ?_; rintro e w' ⟨rfl, rfl⟩
    go_wp2_with fail
    go_ret
    exact ⟨ret_bool (by simp [isTraf, h1]), (by repeat (first | with_reducible exact New.refl _ | with_reducible assumption | with_reducible refine New.drew ?_ | with_reducible refine New.drewN ?_ _ | with_reducible refine New.alloc ?_ _ | with_reducible refine New.setCell ?_ (by first | (simp; done) | (simp; omega) | omega) _ | with_reducible refine New.trans ?_ (by with_reducible assumption)))⟩
  rcases Bool.eq_false_or_eq_true (inB (ps.length : Int) 1 4) with h2 | h2; rotate_left
  · have b1 := inB_iff.1 h1
    go_enter Tryd.func18, Tryd.ntmps18
    go_wp2_with fail
    refine (isBlockCount_any _ _).mono ?_; rintro e w' ⟨rfl, rfl⟩
    go_wp2_with fail
    refine (lengthI_any _ ps.length (ps.map (Value.int .i64)) _ (hv.new ((New.refl w).alloc _))).mono ?_; rintro e w' ⟨rfl, rfl⟩
    go_wp2_with fail
    refine (within_any _ _ _ _).mono ?_; rintro e w' ⟨rfl, rfl⟩
    go_wp2_with fail
    go_ret
    exact ⟨ret_bool (by simp [isTraf, h1, h2]), (by repeat (first | with_reducible exact New.refl _ | with_reducible assumption | with_reducible refine New.drew ?_ | with_reducible refine New.drewN ?_ _ | with_reducible refine New.alloc ?_ _ | with_reducible refine New.setCell ?_ (by first | (simp; done) | (simp; omega) | omega) _ | with_reducible refine New.trans ?_ (by with_reducible assumption)))⟩
  have b1 := inB_iff.1 h1
  go_enter Tryd.func18, Tryd.ntmps18
  go_wp2_with fail
  refine (isBlockCount_any _ _).mono ?_; rintro e w' ⟨rfl, rfl⟩
  go_wp2_with fail
  refine (lengthI_any _ ps.length (ps.map (Value.int .i64)) _ (hv.new ((New.refl w).alloc _))).mono ?_; rintro e w' ⟨rfl, rfl⟩
  go_wp2_with fail
  refine (within_any _ _ _ _).mono ?_; rintro e w' ⟨rfl, rfl⟩
  go_wp2_with fail
  refine (containsFuncI_any 39 #[.pointer (some ⟨w.heap.size, 0, none⟩)] (fun p => !inB p 0 (3 * b - 1)) _ ps _ (hv.new ((New.refl w).alloc _)) (fun _ _ => rfl) (fun x w1 hx hn => ?_)).mono ?_
  · refine (iIsTraffic1_any x b b w.heap.size v w1 ?_ b1).mono (fun e w' ⟨he, hw⟩ => ⟨he, hw ▸ New.refl _⟩)
    rw [hn.cell (by simp)]; simp
  rintro e w3 ⟨rfl, b3⟩
  go_wp2_with fail
  go_ret
  exact ⟨ret_bool (by simp only [isTraf, h1, h2]; rfl), (by repeat (first | with_reducible exact New.refl _ | with_reducible assumption | with_reducible refine New.drew ?_ | with_reducible refine New.drewN ?_ _ | with_reducible refine New.alloc ?_ _ | with_reducible refine New.setCell ?_ (by first | (simp; done) | (simp; omega) | omega) _ | with_reducible refine New.trans ?_ (by with_reducible assumption)))⟩
end Go.Proofs.YtommolbkcjpjhaaDoor
