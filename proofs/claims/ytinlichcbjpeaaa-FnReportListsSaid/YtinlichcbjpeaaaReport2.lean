/- Contracts: reports. -/
import Derived.Test.YtinlichcbjpeaaaProg
import Derived.Test.YtinlichcbjpeaaaReport
import Derived.Test.YtinlichcbjpeaaaTraffic
import Derived.Test.YtinlichcbjpeaaaCells
import Derived.Test.YtinlichcbjpeaaaRets
namespace Go.Proofs.Ytinlichcbjpeaaa
open Go Go.Proofs Go.RowKit
set_option linter.unusedVariables false
set_option linter.unusedSimpArgs false
set_option maxRecDepth 100000
def badR (n : Int) : Bool := !inB n 0 1
def isRep (nb : Int) (f s : List Int) : Bool := !((f.length : Int) != nb) && !(f.any badR) && !((s.length : Int) != nb) && !(s.any badR)
theorem isRep_len {nb : Int} {f s : List Int} (h : isRep nb f s = true) : nb = f.length ∧ f.length = s.length ∧ f.any badR = false ∧ s.any badR = false := by
  simp [isRep] at h
  refine ⟨by omega, by omega, ?_, ?_⟩
  · rw [List.any_eq_false]; intro x hx; simpa using h.1.1.2 x hx
  · rw [List.any_eq_false]; intro x hx; simpa using h.2 x hx
def picked (p : Nat → Bool) (n : Nat) : List Int := ((List.range n).filter p).map fun i => ((i : Nat) : Int)
theorem picked_in {p : Nat → Bool} {n : Nat} (h : p n = true) : picked p (n + 1) = picked p n ++ [(n : Int)] := by simp [picked, List.range_succ, List.filter_append, h]
theorem picked_out {p : Nat → Bool} {n : Nat} (h : p n = false) : picked p (n + 1) = picked p n := by simp [picked, List.range_succ, List.filter_append, h]
theorem picked_le (p : Nat → Bool) (n : Nat) : (picked p n).length ≤ n := by
  rw [picked, List.length_map]; exact Nat.le_trans (List.length_filter_le _ _) (by simp)
theorem picked_congr {p q : Nat → Bool} {n : Nat} (h : ∀ k, k < n → p k = q k) : picked p n = picked q n := by
  rw [picked, picked, List.filter_congr (fun x hx => h x (List.mem_range.1 hx))]
def repOf (nb : Int) (f s : List Int) (p : Nat → Bool) : List Int × Int := if inB nb 2 8 then if isRep nb f s then (picked p f.length, 0) else ([], 2) else ([], 1)
theorem isReport1_any (x : Int) (w : World) : Calls Try.prog 108 #[.int .i64 x] w fun e w' => e = .returned (.bool (badR x)) ∧ w = w' := by
  go_enter Try.func108, Try.ntmps108
  go_wp2_with (go_at_call 109; refine (isReportValue_any _ _).mono ?_; rintro e w' ⟨rfl, rfl⟩)
  go_ret
  exact ⟨rfl, rfl⟩
set_option maxHeartbeats 800000 in
theorem isReport_any (nb : Int) (u v : Value) (f s : List Int) (w : World) (hu : RdI w u f) (hv : RdI w v s) :
    Calls Try.prog 70 #[.int .i64 nb, .agg #[u, v]] w fun e w' => e = .returned (.bool (isRep nb f s)) ∧ New w w' := by
  have HU := Lib.hid hu
  have HV := Lib.hid hv
  obtain ⟨fa, fc, rfl⟩ : ∃ a cap, u = .slice a f.length cap := by obtain ⟨a, cap, h, _⟩ := hu; exact ⟨a, cap, h⟩
  obtain ⟨sa, sc, rfl⟩ : ∃ a cap, v = .slice a s.length cap := by obtain ⟨a, cap, h, _⟩ := hv; exact ⟨a, cap, h⟩
  clear hu hv
  rcases Bool.eq_false_or_eq_true (((f.length : Int) != nb)) with h1 | h1
  · go_enter Try.func70, Try.ntmps70
    go_wp2_with fail
    refine wp_loop_rounds 3 ?_
    rw [rounds_succ]
    go_wp2_with fail
    refine (lengthI_any _ f.length (f.map (Value.int .i64)) _ (HU.out.new (by repeat (first | with_reducible exact New.refl _ | with_reducible assumption | with_reducible refine New.drew ?_ | with_reducible refine New.drewN ?_ _ | with_reducible refine New.alloc ?_ _ | with_reducible refine New.setCell ?_ (by first | (simp; done) | (simp; omega) | omega) _ | with_reducible refine New.trans ?_ (by with_reducible assumption))))).mono ?_; rintro e w1 ⟨rfl, rfl⟩
    go_wp2_with fail
    go_ret
    exact ⟨ret_bool (by simp only [isRep, h1]; rfl), (by repeat (first | with_reducible exact New.refl _ | with_reducible assumption | with_reducible refine New.drew ?_ | with_reducible refine New.drewN ?_ _ | with_reducible refine New.alloc ?_ _ | with_reducible refine New.setCell ?_ (by first | (simp; done) | (simp; omega) | omega) _ | with_reducible refine New.trans ?_ (by with_reducible assumption)))⟩
  rcases Bool.eq_false_or_eq_true (f.any badR) with h2 | h2
  · go_enter Try.func70, Try.ntmps70
    go_wp2_with fail
    refine wp_loop_rounds 3 ?_
    rw [rounds_succ]
    go_wp2_with fail
    refine (lengthI_any _ f.length (f.map (Value.int .i64)) _ (HU.out.new (by repeat (first | with_reducible exact New.refl _ | with_reducible assumption | with_reducible refine New.drew ?_ | with_reducible refine New.drewN ?_ _ | with_reducible refine New.alloc ?_ _ | with_reducible refine New.setCell ?_ (by first | (simp; done) | (simp; omega) | omega) _ | with_reducible refine New.trans ?_ (by with_reducible assumption))))).mono ?_; rintro e w1 ⟨rfl, rfl⟩
    go_wp2_with fail
    refine (containsFuncI_any 108 #[] badR _ f _ (HU.out.new (by repeat (first | with_reducible exact New.refl _ | with_reducible assumption | with_reducible refine New.drew ?_ | with_reducible refine New.drewN ?_ _ | with_reducible refine New.alloc ?_ _ | with_reducible refine New.setCell ?_ (by first | (simp; done) | (simp; omega) | omega) _ | with_reducible refine New.trans ?_ (by with_reducible assumption)))) (fun _ _ => rfl) (fun x w1 hx hn => (isReport1_any x w1).mono (fun e w' ⟨he, hw⟩ => ⟨he, hw ▸ New.refl _⟩))).mono ?_
    rintro e w2 ⟨rfl, b2⟩
    obtain ⟨c2, f2⟩ := b2.rules
    go_wp2_with fail
    go_ret
    exact ⟨ret_bool (by simp only [isRep, h1, h2]; rfl), (by repeat (first | with_reducible exact New.refl _ | with_reducible assumption | with_reducible refine New.drew ?_ | with_reducible refine New.drewN ?_ _ | with_reducible refine New.alloc ?_ _ | with_reducible refine New.setCell ?_ (by first | (simp; done) | (simp; omega) | omega) _ | with_reducible refine New.trans ?_ (by with_reducible assumption)))⟩
  rcases Bool.eq_false_or_eq_true (((s.length : Int) != nb)) with h3 | h3
  · go_enter Try.func70, Try.ntmps70
    go_wp2_with fail
    refine wp_loop_rounds 3 ?_
    rw [rounds_succ]
    go_wp2_with fail
    refine (lengthI_any _ f.length (f.map (Value.int .i64)) _ (HU.out.new (by repeat (first | with_reducible exact New.refl _ | with_reducible assumption | with_reducible refine New.drew ?_ | with_reducible refine New.drewN ?_ _ | with_reducible refine New.alloc ?_ _ | with_reducible refine New.setCell ?_ (by first | (simp; done) | (simp; omega) | omega) _ | with_reducible refine New.trans ?_ (by with_reducible assumption))))).mono ?_; rintro e w1 ⟨rfl, rfl⟩
    go_wp2_with fail
    refine (containsFuncI_any 108 #[] badR _ f _ (HU.out.new (by repeat (first | with_reducible exact New.refl _ | with_reducible assumption | with_reducible refine New.drew ?_ | with_reducible refine New.drewN ?_ _ | with_reducible refine New.alloc ?_ _ | with_reducible refine New.setCell ?_ (by first | (simp; done) | (simp; omega) | omega) _ | with_reducible refine New.trans ?_ (by with_reducible assumption)))) (fun _ _ => rfl) (fun x w1 hx hn => (isReport1_any x w1).mono (fun e w' ⟨he, hw⟩ => ⟨he, hw ▸ New.refl _⟩))).mono ?_
    rintro e w2 ⟨rfl, b2⟩
    obtain ⟨c2, f2⟩ := b2.rules
    go_wp2_with fail
    rw [rounds_succ]
    go_wp2_with fail
    refine (lengthI_any _ s.length (s.map (Value.int .i64)) _ (HV.out.new (by repeat (first | with_reducible exact New.refl _ | with_reducible assumption | with_reducible refine New.drew ?_ | with_reducible refine New.drewN ?_ _ | with_reducible refine New.alloc ?_ _ | with_reducible refine New.setCell ?_ (by first | (simp; done) | (simp; omega) | omega) _ | with_reducible refine New.trans ?_ (by with_reducible assumption))))).mono ?_; rintro e w3 ⟨rfl, rfl⟩
    go_wp2_with fail
    go_ret
    exact ⟨ret_bool (by simp only [isRep, h1, h2, h3]; rfl), (by repeat (first | with_reducible exact New.refl _ | with_reducible assumption | with_reducible refine New.drew ?_ | with_reducible refine New.drewN ?_ _ | with_reducible refine New.alloc ?_ _ | with_reducible refine New.setCell ?_ (by first | (simp; done) | (simp; omega) | omega) _ | with_reducible refine New.trans ?_ (by with_reducible assumption)))⟩
  rcases Bool.eq_false_or_eq_true (s.any badR) with h4 | h4
  · go_enter Try.func70, Try.ntmps70
    go_wp2_with fail
    refine wp_loop_rounds 3 ?_
    rw [rounds_succ]
    go_wp2_with fail
    refine (lengthI_any _ f.length (f.map (Value.int .i64)) _ (HU.out.new (by repeat (first | with_reducible exact New.refl _ | with_reducible assumption | with_reducible refine New.drew ?_ | with_reducible refine New.drewN ?_ _ | with_reducible refine New.alloc ?_ _ | with_reducible refine New.setCell ?_ (by first | (simp; done) | (simp; omega) | omega) _ | with_reducible refine New.trans ?_ (by with_reducible assumption))))).mono ?_; rintro e w1 ⟨rfl, rfl⟩
    go_wp2_with fail
    refine (containsFuncI_any 108 #[] badR _ f _ (HU.out.new (by repeat (first | with_reducible exact New.refl _ | with_reducible assumption | with_reducible refine New.drew ?_ | with_reducible refine New.drewN ?_ _ | with_reducible refine New.alloc ?_ _ | with_reducible refine New.setCell ?_ (by first | (simp; done) | (simp; omega) | omega) _ | with_reducible refine New.trans ?_ (by with_reducible assumption)))) (fun _ _ => rfl) (fun x w1 hx hn => (isReport1_any x w1).mono (fun e w' ⟨he, hw⟩ => ⟨he, hw ▸ New.refl _⟩))).mono ?_
    rintro e w2 ⟨rfl, b2⟩
    obtain ⟨c2, f2⟩ := b2.rules
    go_wp2_with fail
    rw [rounds_succ]
    go_wp2_with fail
    refine (lengthI_any _ s.length (s.map (Value.int .i64)) _ (HV.out.new (by repeat (first | with_reducible exact New.refl _ | with_reducible assumption | with_reducible refine New.drew ?_ | with_reducible refine New.drewN ?_ _ | with_reducible refine New.alloc ?_ _ | with_reducible refine New.setCell ?_ (by first | (simp; done) | (simp; omega) | omega) _ | with_reducible refine New.trans ?_ (by with_reducible assumption))))).mono ?_; rintro e w3 ⟨rfl, rfl⟩
    go_wp2_with fail
    refine (containsFuncI_any 108 #[] badR _ s _ (HV.out.new (by repeat (first | with_reducible exact New.refl _ | with_reducible assumption | with_reducible refine New.drew ?_ | with_reducible refine New.drewN ?_ _ | with_reducible refine New.alloc ?_ _ | with_reducible refine New.setCell ?_ (by first | (simp; done) | (simp; omega) | omega) _ | with_reducible refine New.trans ?_ (by with_reducible assumption)))) (fun _ _ => rfl) (fun x w1 hx hn => (isReport1_any x w1).mono (fun e w' ⟨he, hw⟩ => ⟨he, hw ▸ New.refl _⟩))).mono ?_
    rintro e w4 ⟨rfl, b4⟩
    go_wp2_with fail
    go_ret
    exact ⟨ret_bool (by simp only [isRep, h1, h2, h3, h4]; rfl), (by repeat (first | with_reducible exact New.refl _ | with_reducible assumption | with_reducible refine New.drew ?_ | with_reducible refine New.drewN ?_ _ | with_reducible refine New.alloc ?_ _ | with_reducible refine New.setCell ?_ (by first | (simp; done) | (simp; omega) | omega) _ | with_reducible refine New.trans ?_ (by with_reducible assumption)))⟩
  go_enter Try.func70, Try.ntmps70
  go_wp2_with fail
  refine wp_loop_rounds 3 ?_
  rw [rounds_succ]
  go_wp2_with fail
  refine (lengthI_any _ f.length (f.map (Value.int .i64)) _ (HU.out.new (by repeat (first | with_reducible exact New.refl _ | with_reducible assumption | with_reducible refine New.drew ?_ | with_reducible refine New.drewN ?_ _ | with_reducible refine New.alloc ?_ _ | with_reducible refine New.setCell ?_ (by first | (simp; done) | (simp; omega) | omega) _ | with_reducible refine New.trans ?_ (by with_reducible assumption))))).mono ?_; rintro e w1 ⟨rfl, rfl⟩
  go_wp2_with fail
  refine (containsFuncI_any 108 #[] badR _ f _ (HU.out.new (by repeat (first | with_reducible exact New.refl _ | with_reducible assumption | with_reducible refine New.drew ?_ | with_reducible refine New.drewN ?_ _ | with_reducible refine New.alloc ?_ _ | with_reducible refine New.setCell ?_ (by first | (simp; done) | (simp; omega) | omega) _ | with_reducible refine New.trans ?_ (by with_reducible assumption)))) (fun _ _ => rfl) (fun x w1 hx hn => (isReport1_any x w1).mono (fun e w' ⟨he, hw⟩ => ⟨he, hw ▸ New.refl _⟩))).mono ?_
  rintro e w2 ⟨rfl, b2⟩
  obtain ⟨c2, f2⟩ := b2.rules
  go_wp2_with fail
  rw [rounds_succ]
  go_wp2_with fail
  refine (lengthI_any _ s.length (s.map (Value.int .i64)) _ (HV.out.new (by repeat (first | with_reducible exact New.refl _ | with_reducible assumption | with_reducible refine New.drew ?_ | with_reducible refine New.drewN ?_ _ | with_reducible refine New.alloc ?_ _ | with_reducible refine New.setCell ?_ (by first | (simp; done) | (simp; omega) | omega) _ | with_reducible refine New.trans ?_ (by with_reducible assumption))))).mono ?_; rintro e w3 ⟨rfl, rfl⟩
  go_wp2_with fail
  refine (containsFuncI_any 108 #[] badR _ s _ (HV.out.new (by repeat (first | with_reducible exact New.refl _ | with_reducible assumption | with_reducible refine New.drew ?_ | with_reducible refine New.drewN ?_ _ | with_reducible refine New.alloc ?_ _ | with_reducible refine New.setCell ?_ (by first | (simp; done) | (simp; omega) | omega) _ | with_reducible refine New.trans ?_ (by with_reducible assumption)))) (fun _ _ => rfl) (fun x w1 hx hn => (isReport1_any x w1).mono (fun e w' ⟨he, hw⟩ => ⟨he, hw ▸ New.refl _⟩))).mono ?_
  rintro e w4 ⟨rfl, b4⟩
  go_wp2_with fail
  rw [rounds_succ]
  go_wp2_with fail
  go_ret
  exact ⟨ret_bool (by simp only [isRep, h1, h2, h3, h4]; rfl), (by repeat (first | with_reducible exact New.refl _ | with_reducible assumption | with_reducible refine New.drew ?_ | with_reducible refine New.drewN ?_ _ | with_reducible refine New.alloc ?_ _ | with_reducible refine New.setCell ?_ (by first | (simp; done) | (simp; omega) | omega) _ | with_reducible refine New.trans ?_ (by with_reducible assumption)))⟩
theorem rep_spec {nb : Int} {f s : List Int} (h1 : ((f.length : Int) != nb) = false) (h2 : ((s.length : Int) != nb) = false) :
    isRep nb f s = allUp (fun k => inB (f.getD k 0) 0 1 && inB (s.getD k 0) 0 1) f.length := by
  have e1 : (f.length : Int) = nb := by simpa using h1
  have e2 : (s.length : Int) = nb := by simpa using h2
  have e3 : f.length = s.length := by omega
  rw [Bool.eq_iff_iff]
  simp only [isRep, h1, h2, allUp, List.all_eq_true, List.mem_range, Bool.and_eq_true, Bool.not_eq_true', Bool.not_false, true_and, and_true]
  constructor
  · intro ⟨h3, h4⟩ k hk
    rw [List.any_eq_false] at h3 h4
    have a := h3 f[k] (List.getElem_mem hk)
    have b := h4 (s[k]'(by omega)) (List.getElem_mem _)
    simp [badR] at a b
    have hk' : k < s.length := by omega
    simp [List.getD, hk, hk', a, b]
  · intro h
    refine ⟨?_, ?_⟩
    · rw [List.any_eq_false]; intro x hx
      obtain ⟨k, hk, rfl⟩ := List.mem_iff_getElem.1 hx
      have := (h k hk).1
      simp [List.getD, hk] at this
      simp [badR, this]
    · rw [List.any_eq_false]; intro x hx
      obtain ⟨k, hk, rfl⟩ := List.mem_iff_getElem.1 hx
      have := (h k (by omega)).2
      simp [List.getD, hk] at this
      simp [badR, this]
set_option maxHeartbeats 800000 in
theorem l11Is_any (nb : Int) (u v : Value) (f s : List Int) (w : World) (hu : RdI w u f) (hv : RdI w v s) :
    Calls Try.prog 73 #[.int .i64 nb, .agg #[u, v]] w fun e w' => e = .returned (.bool (isRep nb f s)) ∧ New w w' := by
  obtain ⟨fa, fc, rfl, hfm, HF⟩ := hu.open
  obtain ⟨sa, sc, rfl, hsm, HS⟩ := hv.open
  clear hu hv
  rcases Bool.eq_false_or_eq_true (((f.length : Int) != nb)) with h1 | h1
  · go_enter Try.func73, Try.ntmps73
    go_wp2_with fail
    go_ret
    exact ⟨ret_bool (by simp only [isRep, h1]; rfl), (by repeat (first | with_reducible exact New.refl _ | with_reducible assumption | with_reducible refine New.drew ?_ | with_reducible refine New.drewN ?_ _ | with_reducible refine New.alloc ?_ _ | with_reducible refine New.setCell ?_ (by first | (simp; done) | (simp; omega) | omega) _ | with_reducible refine New.trans ?_ (by with_reducible assumption)))⟩
  rcases Bool.eq_false_or_eq_true (((s.length : Int) != nb)) with h2 | h2
  · go_enter Try.func73, Try.ntmps73
    go_wp2_with fail
    go_ret
    exact ⟨ret_bool (by simp only [isRep, h1, h2]; simp), (by repeat (first | with_reducible exact New.refl _ | with_reducible assumption | with_reducible refine New.drew ?_ | with_reducible refine New.drewN ?_ _ | with_reducible refine New.alloc ?_ _ | with_reducible refine New.setCell ?_ (by first | (simp; done) | (simp; omega) | omega) _ | with_reducible refine New.trans ?_ (by with_reducible assumption)))⟩
  have HR := Lib.hid (rep_spec h1 h2)
  obtain rfl : (f.length : Int) = nb := by simpa using h1
  have hle : f.length ≤ s.length := by have : (s.length : Int) = f.length := by simpa using h2
                                       omega
  go_enter Try.func73, Try.ntmps73
  go_wp2_with fail
  go_loopw [5] (fun i wr => ∃ k : Nat, k ≤ f.length ∧ i = .int .i64 k ∧ Hid (allUp (fun k => inB (f.getD k 0) 0 1 && inB (s.getD k 0) 0 1) k = true) ∧ New (w.alloc (.cells #[.slice fa f.length fc, .slice sa s.length sc] 26)) wr) (fun i _ => f.length - (intOf i).toNat)
  case atStart => exact ⟨0, Nat.zero_le _, rfl, rfl, New.refl _⟩
  case round =>
    obtain ⟨k, hk, rfl, hpre, hb⟩ := hrel
    obtain ⟨c, f'⟩ := hb.rules
    by_cases hlt : k < f.length
    · have hlt' : k < s.length := by omega
      obtain ⟨b1, o1, rfl, hbl1, hx1⟩ := HF.out w (New.refl w) k hlt
      obtain ⟨b2, o2, rfl, hbl2, hx2⟩ := HS.out w (New.refl w) k hlt'
      rcases Bool.eq_false_or_eq_true (inB f[k] 0 1) with h3 | h3; rotate_left
      · have HA := Lib.hid (allUp_not (p := fun k => inB (f.getD k 0) 0 1 && inB (s.getD k 0) 0 1) hlt (by simp [List.getD, hlt, hlt', h3]))
        go_wp2_with (go_at_call 101; refine (l01In_any _ _ _ _).mono ?_; rintro e w' ⟨rfl, rfl⟩)
        go_ret
        exact ⟨ret_bool (by rw [HR.out, HA.out]), (by repeat (first | with_reducible exact New.refl _ | with_reducible assumption | with_reducible refine New.drew ?_ | with_reducible refine New.drewN ?_ _ | with_reducible refine New.alloc ?_ _ | with_reducible refine New.setCell ?_ (by first | (simp; done) | (simp; omega) | omega) _ | with_reducible refine New.trans ?_ (by with_reducible assumption)))⟩
      rcases Bool.eq_false_or_eq_true (inB s[k] 0 1) with h4 | h4; rotate_left
      · have HA := Lib.hid (allUp_not (p := fun k => inB (f.getD k 0) 0 1 && inB (s.getD k 0) 0 1) hlt (by simp [List.getD, hlt, hlt', h4]))
        go_wp2_with (go_at_call 101; refine (l01In_any _ _ _ _).mono ?_; rintro e w' ⟨rfl, rfl⟩)
        go_ret
        exact ⟨ret_bool (by rw [HR.out, HA.out]), (by repeat (first | with_reducible exact New.refl _ | with_reducible assumption | with_reducible refine New.drew ?_ | with_reducible refine New.drewN ?_ _ | with_reducible refine New.alloc ?_ _ | with_reducible refine New.setCell ?_ (by first | (simp; done) | (simp; omega) | omega) _ | with_reducible refine New.trans ?_ (by with_reducible assumption)))⟩
      have HA := Lib.hid (allUp_next hpre.out (by simp [List.getD, hlt, hlt', h3, h4]))
      go_wp2_with (go_at_call 101; refine (l01In_any _ _ _ _).mono ?_; rintro e w' ⟨rfl, rfl⟩)
      go_roundw
      case rel => exact ⟨k + 1, by omega, by go_num, HA, (by repeat (first | with_reducible exact New.refl _ | with_reducible assumption | with_reducible refine New.drew ?_ | with_reducible refine New.drewN ?_ _ | with_reducible refine New.alloc ?_ _ | with_reducible refine New.setCell ?_ (by first | (simp; done) | (simp; omega) | omega) _ | with_reducible refine New.trans ?_ (by with_reducible assumption)))⟩
      case measure => simp [intOf]; omega
    · obtain rfl : k = f.length := by omega
      go_wp2_with fail
      go_ret
      exact ⟨ret_bool (by rw [HR.out, hpre.out]), (by repeat (first | with_reducible exact New.refl _ | with_reducible assumption | with_reducible refine New.drew ?_ | with_reducible refine New.drewN ?_ _ | with_reducible refine New.alloc ?_ _ | with_reducible refine New.setCell ?_ (by first | (simp; done) | (simp; omega) | omega) _ | with_reducible refine New.trans ?_ (by with_reducible assumption)))⟩
end Go.Proofs.Ytinlichcbjpeaaa
