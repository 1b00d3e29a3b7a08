/- Plain facts of reports, and the laws' small helpers. -/
import Derived.Test.YtinlichcbjpeaaaProg
import Derived.Test.YtinlichcbjpeaaaReportO
import Derived.Test.YtinlichcbjpeaaaReport3
namespace Go.Proofs.Ytinlichcbjpeaaa
open Go Go.Proofs Go.RowKit
set_option linter.unusedVariables false
set_option linter.unusedSimpArgs false
set_option maxRecDepth 100000
theorem minL_len (n : Int) (ps : List Int) : (minL n ps).length = n.toNat := minTo_len _ _ _
theorem minL_bd (n : Int) (ps : List Int) : ∀ x ∈ minL n ps, 0 ≤ x ∧ x ≤ 1 := by
  intro x hx
  obtain ⟨c, _, rfl⟩ := List.mem_map.1 hx
  unfold minQ; split <;> omega
theorem mem_set_or {L : List Int} {i : Nat} {v x : Int} (h : x ∈ L.set i v) : x = v ∨ x ∈ L := by
  rcases List.mem_or_eq_of_mem_set h with h | h
  · exact .inr h
  · exact .inl h
theorem putF_bd (ch : Int) : ∀ (fs : List ESensorFault) (L : List Int), (∀ x ∈ L, 0 ≤ x ∧ x ≤ 1) → (∀ x ∈ fs, 0 ≤ x.val ∧ x.val ≤ 1) → ∀ x ∈ putF L ch fs, 0 ≤ x ∧ x ≤ 1
  | [], L, hL, _, x, hx => hL x hx
  | f :: fs, L, hL, hf, x, hx => by
    refine putF_bd ch fs _ ?_ (fun y hy => hf y (by simp [hy])) x hx
    intro y hy
    dsimp only at hy
    split at hy
    · rcases mem_set_or hy with rfl | hy
      · exact hf f (by simp)
      · exact hL y hy
    · exact hL y hy
/-- A block without a fault reports what it reported. -/
theorem putF_other (ch : Int) (b : Nat) : ∀ (fs : List ESensorFault) (L : List Int), (∀ x ∈ fs, x.blk.toNat ≠ b) → (putF L ch fs)[b]? = L[b]?
  | [], L, _ => rfl
  | f :: fs, L, hf => by
    show (putF _ ch fs)[b]? = _
    rw [putF_other ch b fs _ (fun y hy => hf y (by simp [hy]))]
    dsimp only
    split
    · rw [List.getElem?_set_ne (hf f (by simp))]
    · rfl
theorem bad_none {L : List Int} (h : ∀ x ∈ L, 0 ≤ x ∧ x ≤ 1) : L.any badR = false := by
  rw [List.any_eq_false]
  intro x hx
  have := inB_iff.2 (h x hx)
  simp [badR, this]
theorem isRep_of {n : Int} {f s : List Int} (h1 : (f.length : Int) = n) (h2 : (s.length : Int) = n) (h3 : ∀ x ∈ f, 0 ≤ x ∧ x ≤ 1) (h4 : ∀ x ∈ s, 0 ≤ x ∧ x ≤ 1) : isRep n f s = true := by
  simp [isRep, h1, h2, bad_none h3, bad_none h4]
theorem mem_picked {p : Nat → Bool} {n : Nat} {x : Int} : x ∈ picked p n ↔ ∃ k : Nat, k < n ∧ p k = true ∧ x = k := by
  unfold picked
  rw [List.mem_map]
  constructor
  · rintro ⟨k, hk, rfl⟩
    rw [List.mem_filter, List.mem_range] at hk
    exact ⟨k, hk.1, hk.2, rfl⟩
  · rintro ⟨k, hk, hp, rfl⟩
    exact ⟨k, by rw [List.mem_filter, List.mem_range]; exact ⟨hk, hp⟩, rfl⟩
theorem faults_val {n : Int} {fs : List ESensorFault} (h : faultsOk n fs = true) : ∀ x ∈ fs, 0 ≤ x.val ∧ x.val ≤ 1 := by
  intro x hx
  obtain ⟨k, hk, rfl⟩ := List.mem_iff_getElem.1 hx
  simp only [faultsOk, allUp, Bool.and_eq_true, List.all_eq_true] at h
  have h1 := h.1 k (List.mem_range.2 hk)
  rw [pF_at hk, Bool.and_eq_true, okF, Bool.and_eq_true, Bool.and_eq_true] at h1
  exact inB_iff.1 h1.1.2
theorem repR_nil {n : Int} {ps : List Int} (h : isTraf n ps = true) : repR n ps [] = ((minL n ps, minL n ps), 0) := by
  rw [repR, if_pos h, if_pos (by simp [faultsOk, allUp])]; rfl
theorem clear_uses {n : Int} {ps : List Int} {k : Nat} (hk : k < n.toNat) : ((picked (sumP (minL n ps) (minL n ps) 0) n.toNat).any (· == (k : Int))) = ((loadsQ n ps)[k]? == some 0) := by
  have hl : (loadsQ n ps)[k]? = some (countQ n ps k : Int) := by simp [loadsQ, loadsTo, hk]
  have hm : (minL n ps)[k]? = some (minQ (countQ n ps k)) := by simp [minL, minTo, loadsTo, hk]
  rw [Bool.eq_iff_iff, List.any_eq_true, hl]
  constructor
  · rintro ⟨x, hx, he⟩
    obtain ⟨j, hj, hp, rfl⟩ := mem_picked.1 hx
    have hjk : j = k := by simp at he; omega
    subst hjk
    simp only [sumP, List.getD, hm, Option.getD_some, beq_iff_eq, minQ] at hp
    split at hp
    · simp; omega
    · omega
  · intro h
    refine ⟨k, mem_picked.2 ⟨k, hk, ?_, rfl⟩, by simp⟩
    simp at h
    simp [sumP, List.getD, hm, minQ, h]
/-- Where the channels differ, there is a fault. -/
theorem differ_fault {n : Int} {ps : List Int} {fs : List ESensorFault} {k : Nat} (hk : k < n.toNat) (hf : ∀ x ∈ fs, 0 ≤ x.blk) (h : sumP (putF (minL n ps) 0 fs) (putF (minL n ps) 1 fs) 1 k = true) : (fs.any fun x => x.blk == (k : Int)) = true := by
  cases hb : fs.any fun x => x.blk == (k : Int) with
  | true => rfl
  | false =>
    rw [List.any_eq_false] at hb
    have hne : ∀ x ∈ fs, x.blk.toNat ≠ k := fun x hx e => by
      have h1 := hb x hx
      have h2 := hf x hx
      simp at h1
      omega
    have hl := minL_len n ps
    have e0 := putF_other 0 k fs (minL n ps) hne
    have e1 := putF_other 1 k fs (minL n ps) hne
    simp only [sumP, List.getD, e0, e1, beq_iff_eq] at h
    rw [List.getElem?_eq_getElem (by omega)] at h
    simp only [Option.getD_some] at h
    omega
theorem hasInt_any (v : Value) (xs : List Int) (x : Int) (w : World) (hv : RdI w v xs) :
    Calls Try.prog 21 #[v, .int .i64 x] w fun e w' => e = .returned (.bool (xs.any (· == x))) ∧ w = w' := by
  obtain ⟨a, cap, rfl, hm, HC⟩ := hv.open
  clear hv
  go_enter Try.func21, Try.ntmps21
  go_wp2_with fail
  go_loop [5] (fun i => ∃ k : Nat, k ≤ xs.length ∧ i = .int .i64 k ∧ Hid ((xs.take k).any (· == x) = false)) (fun i => xs.length - (intOf i).toNat)
  case atStart => exact ⟨0, Nat.zero_le _, rfl, rfl⟩
  case round =>
    obtain ⟨k, hk, rfl, hpre⟩ := hrel
    by_cases hlt : k < xs.length
    · obtain ⟨b, o, rfl, hbl, hx⟩ := HC.out w (New.refl w) k hlt
      have HY := Lib.hid (fun h => any_at (p := fun y => y == x) hlt h)
      have HN := Lib.hid (fun h => any_take (p := fun y => y == x) hlt hpre.out h)
      generalize xs[k] = y at *
      rcases Bool.eq_false_or_eq_true (y == x) with h | h
      · go_wp2_with fail
        go_ret
        exact ⟨ret_bool (HY.out h).symm, rfl⟩
      · go_wp2_with fail
        go_round
        case rel => exact ⟨k + 1, by omega, by go_num, Lib.hid (HN.out h)⟩
        case measure => simp [intOf]; omega
    · obtain rfl : k = xs.length := by omega
      go_wp2_with fail
      go_ret
      exact ⟨ret_bool (any_take_all hpre.out).symm, rfl⟩
set_option maxHeartbeats 800000 in
theorem likeInts_eq (v u : Value) (xs : List Int) (w : World) (hv : RdI w v xs) (hu : RdI w u xs) :
    Calls Try.prog 20 #[v, u] w fun e w' => e = .returned (.bool true) ∧ New w w' := by
  obtain ⟨a, cap, rfl, hm, HC⟩ := hv.open
  obtain ⟨a', cap', rfl, hm', HC'⟩ := hu.open
  clear hv hu
  have hne : ((xs.length : Int) != xs.length) = false := by simp
  go_enter Try.func20, Try.ntmps20
  go_wp2_with fail
  go_loopw [5] (fun i wr => ∃ k : Nat, k ≤ xs.length ∧ i = .int .i64 k ∧ New w wr) (fun i _ => xs.length - (intOf i).toNat)
  case atStart => exact ⟨0, Nat.zero_le _, rfl, New.refl w⟩
  case round =>
    obtain ⟨k, hk, rfl, hb⟩ := hrel
    by_cases hlt : k < xs.length
    · obtain ⟨b, o, rfl, hbl, hx⟩ := HC.out wr hb k hlt
      obtain ⟨b', o', rfl, hbl', hx'⟩ := HC'.out wr hb k hlt
      have hxx : (xs[k] != xs[k]) = false := by simp
      go_wp2_with fail
      go_quiet (fail)
      go_wp2_with fail
      go_roundw
      case rel => exact ⟨k + 1, by omega, by go_num, (by repeat (first | with_reducible exact New.refl _ | with_reducible assumption | with_reducible refine New.drew ?_ | with_reducible refine New.drewN ?_ _ | with_reducible refine New.alloc ?_ _ | with_reducible refine New.setCell ?_ (by first | (simp; done) | (simp; omega) | omega) _ | with_reducible refine New.trans ?_ (by with_reducible assumption)))⟩
      case measure => simp [intOf]; omega
    · obtain rfl : k = xs.length := by omega
      go_wp2_with fail
      go_ret
      exact ⟨rfl, hb⟩
theorem likeReports_eq (u v u' v' : Value) (f s : List Int) (w : World) (hu : RdI w u f) (hv : RdI w v s) (hu' : RdI w u' f) (hv' : RdI w v' s) :
    Calls Try.prog 52 #[.agg #[u, v], .agg #[u', v']] w fun e w' => e = .returned (.bool true) ∧ New w w' := by
  have HU := Lib.hid hu
  have HV := Lib.hid hv
  have HU' := Lib.hid hu'
  have HV' := Lib.hid hv'
  clear hu hv hu' hv'
  have zz : w.heap.size < w.heap.size + 1 + 1 := by omega
  go_enter Try.func52, Try.ntmps52
  go_wp2_with fail
  refine (likeInts_eq _ _ f _ (HU.out.new (by repeat (first | with_reducible exact New.refl _ | with_reducible assumption | with_reducible refine New.drew ?_ | with_reducible refine New.drewN ?_ _ | with_reducible refine New.alloc ?_ _ | with_reducible refine New.setCell ?_ (by first | (simp; done) | (simp; omega) | omega) _ | with_reducible refine New.trans ?_ (by with_reducible assumption)))) (HU'.out.new (by repeat (first | with_reducible exact New.refl _ | with_reducible assumption | with_reducible refine New.drew ?_ | with_reducible refine New.drewN ?_ _ | with_reducible refine New.alloc ?_ _ | with_reducible refine New.setCell ?_ (by first | (simp; done) | (simp; omega) | omega) _ | with_reducible refine New.trans ?_ (by with_reducible assumption))))).mono ?_; rintro e w1 ⟨rfl, b1⟩
  try with_reducible replace b1 := New.undrawN b1
  try with_reducible replace b1 := New.undraw b1
  obtain ⟨c1, f1⟩ := b1.rules
  have z1 := b1.size
  try simp only [World.size_alloc, World.size_drew, World.heap_drewN, World.size_setCell] at z1
  have z1_0 : w.heap.size < w1.heap.size := by omega
  have z1_1 : w.heap.size + 1 < w1.heap.size := by omega
  go_wp2_with fail
  refine (likeInts_eq _ _ s _ (HV.out.new (by repeat (first | with_reducible exact New.refl _ | with_reducible assumption | with_reducible refine New.drew ?_ | with_reducible refine New.drewN ?_ _ | with_reducible refine New.alloc ?_ _ | with_reducible refine New.setCell ?_ (by first | (simp; done) | (simp; omega) | omega) _ | with_reducible refine New.trans ?_ (by with_reducible assumption)))) (HV'.out.new (by repeat (first | with_reducible exact New.refl _ | with_reducible assumption | with_reducible refine New.drew ?_ | with_reducible refine New.drewN ?_ _ | with_reducible refine New.alloc ?_ _ | with_reducible refine New.setCell ?_ (by first | (simp; done) | (simp; omega) | omega) _ | with_reducible refine New.trans ?_ (by with_reducible assumption))))).mono ?_; rintro e w2 ⟨rfl, b2⟩
  try with_reducible replace b2 := New.undrawN b2
  try with_reducible replace b2 := New.undraw b2
  obtain ⟨c2, f2⟩ := b2.rules
  have z2 := b2.size
  try simp only [World.size_alloc, World.size_drew, World.heap_drewN, World.size_setCell] at z2
  have z2_0 : w.heap.size < w2.heap.size := by omega
  have z2_1 : w.heap.size + 1 < w2.heap.size := by omega
  go_wp2_with fail
  go_ret
  exact ⟨rfl, (by repeat (first | with_reducible exact New.refl _ | with_reducible assumption | with_reducible refine New.drew ?_ | with_reducible refine New.drewN ?_ _ | with_reducible refine New.alloc ?_ _ | with_reducible refine New.setCell ?_ (by first | (simp; done) | (simp; omega) | omega) _ | with_reducible refine New.trans ?_ (by with_reducible assumption)))⟩
end Go.Proofs.Ytinlichcbjpeaaa
