/- The brakes in a run of segments: plain facts, no program in sight. -/
import Derived.Test.YtinkhjjeflhagaaDevices
namespace Go.Proofs.Ytinkhjjeflhagaa
open Go Go.Proofs Go.RowKit
set_option linter.unusedVariables false
set_option linter.unusedSimpArgs false
def brkAt (xs : List ESegment) (k : Nat) : Bool := (xs.getD k ⟨0, 0, 0, 0, 0, 0, 0⟩).kind == 3
theorem brkAt_eq {xs : List ESegment} {k : Nat} (h : k < xs.length) : brkAt xs k = (xs[k].kind == 3) := by simp [brkAt, List.getD, h]
def brkOk (xs : List ESegment) (f c : Int) (k : Nat) : Bool := brkAt xs k && decide (((k : Int) - f) % (xs.length : Int) < c)
/-- By the reference: the brakes among the first m. -/
def brkS (xs : List ESegment) (f c : Int) (m : Nat) : List Int := ((List.range m).filter (brkOk xs f c)).map Int.ofNat
/-- By the program: the brakes among the first m of the run. -/
def brkI (xs : List ESegment) (f m : Nat) : List Int := (((List.range m).map fun i => (f + i) % xs.length).filter (brkAt xs)).map Int.ofNat
theorem brkS_yes {xs : List ESegment} {f c : Int} {m : Nat} (h : brkOk xs f c m = true) : brkS xs f c (m + 1) = brkS xs f c m ++ [(m : Int)] := by
  rw [brkS, List.range_succ, List.filter_append, List.map_append, List.filter_cons, if_pos h]; rfl
theorem brkS_no {xs : List ESegment} {f c : Int} {m : Nat} (h : brkOk xs f c m = false) : brkS xs f c (m + 1) = brkS xs f c m := by
  rw [brkS, List.range_succ, List.filter_append, List.map_append, List.filter_cons, if_neg (by rw [h]; simp)]; simp [brkS]
theorem brkS_len (xs : List ESegment) (f c : Int) (m : Nat) : (brkS xs f c m).length ≤ m := by
  rw [brkS, List.length_map]; exact Nat.le_trans (List.length_filter_le _ _) (by simp)
theorem brkI_yes {xs : List ESegment} {f m : Nat} (h : brkAt xs ((f + m) % xs.length) = true) : brkI xs f (m + 1) = brkI xs f m ++ [(((f + m) % xs.length : Nat) : Int)] := by
  rw [brkI, List.range_succ, List.map_append, List.filter_append, List.map_append, List.map_cons, List.filter_cons, if_pos h]; rfl
theorem brkI_no {xs : List ESegment} {f m : Nat} (h : brkAt xs ((f + m) % xs.length) = false) : brkI xs f (m + 1) = brkI xs f m := by
  rw [brkI, List.range_succ, List.map_append, List.filter_append, List.map_append, List.map_cons, List.filter_cons, if_neg (by rw [h]; simp)]; simp [brkI]
theorem brkI_len (xs : List ESegment) (f m : Nat) : (brkI xs f m).length ≤ m := by
  rw [brkI, List.length_map]; exact Nat.le_trans (List.length_filter_le _ _) (by simp)
theorem mod_one {n f m : Nat} (hf : f < n) (hm : m < n) : ((((m : Int) - (f : Int)) % (n : Int)).toNat + f) % n = m ∧ (((m : Int) - (f : Int)) % (n : Int)).toNat < n := by
  have hn : (0 : Int) < n := by omega
  have h1 := Int.emod_nonneg ((m : Int) - (f : Int)) (show (n : Int) ≠ 0 by omega)
  have h2 := Int.emod_lt_of_pos ((m : Int) - (f : Int)) hn
  obtain ⟨u, hu⟩ := Int.eq_ofNat_of_zero_le h1
  rw [hu]
  refine ⟨?_, by omega⟩
  rcases Nat.lt_or_ge m f with h | h
  · have e : ((m : Int) - (f : Int)) % (n : Int) = (m : Int) - f + n := by
      rw [← Int.add_emod_right, Int.emod_eq_of_lt (by omega) (by omega)]
    rw [e] at hu
    have : (Int.ofNat u).toNat + f = m + n := by have : u = m + n - f := by omega
                                                 subst this; simp; omega
    show ((u : Int).toNat + f) % n = m
    rw [show (u : Int).toNat + f = m + n by omega, Nat.add_mod_right, Nat.mod_eq_of_lt hm]
  · have e : ((m : Int) - (f : Int)) % (n : Int) = (m : Int) - f := Int.emod_eq_of_lt (by omega) (by omega)
    rw [e] at hu
    rw [show (u : Int).toNat + f = m by omega, Nat.mod_eq_of_lt hm]
theorem mod_two {n f i : Nat} (hf : f < n) (hi : i < n) : ((((f + i) % n : Nat) : Int) - (f : Int)) % (n : Int) = (i : Int) := by
  rcases Nat.lt_or_ge (f + i) n with h | h
  · rw [Nat.mod_eq_of_lt h, Int.emod_eq_of_lt (by omega) (by omega)]; omega
  · rw [Nat.mod_eq_sub_mod h, Nat.mod_eq_of_lt (by omega), ← Int.add_emod_right, Int.emod_eq_of_lt (by omega) (by omega)]; omega
theorem brk_mem {xs : List ESegment} {f c : Nat} (hf : f < xs.length) (hc : c ≤ xs.length) (a : Int) : a ∈ brkI xs f c ↔ a ∈ brkS xs f c xs.length := by
  simp only [brkI, brkS, List.mem_map, List.mem_filter, List.mem_range, brkOk, Bool.and_eq_true, decide_eq_true_eq]
  constructor
  · rintro ⟨_, ⟨⟨i, hi, rfl⟩, hb⟩, rfl⟩
    exact ⟨_, ⟨Nat.mod_lt _ (by omega), hb, by rw [mod_two hf (by omega)]; omega⟩, rfl⟩
  · rintro ⟨m, ⟨hm, hb, hl⟩, rfl⟩
    obtain ⟨h1, h2⟩ := mod_one hf hm
    have h0 := Int.emod_nonneg ((m : Int) - (f : Int)) (show (xs.length : Int) ≠ 0 by omega)
    refine ⟨m, ⟨⟨(((m : Int) - (f : Int)) % (xs.length : Int)).toNat, by omega, by rw [Nat.add_comm]; exact h1⟩, hb⟩, rfl⟩
theorem pairwise_range (n : Nat) : (List.range n).Pairwise (· < ·) := List.pairwise_lt_range
theorem brkS_sorted (xs : List ESegment) (f c : Int) (m : Nat) : (brkS xs f c m).Pairwise (· < ·) := by
  rw [brkS, List.pairwise_map]
  exact (pairwise_range m).filter _ |>.imp (fun h => Int.ofNat_lt.2 h)
theorem brkS_nodup (xs : List ESegment) (f c : Int) (m : Nat) : (brkS xs f c m).Nodup :=
  (brkS_sorted xs f c m).imp (fun h => by omega)
theorem brkI_nodup {xs : List ESegment} {f c : Nat} (hf : f < xs.length) (hc : c ≤ xs.length) : (brkI xs f c).Nodup := by
  rw [brkI, List.Nodup, List.pairwise_map]
  refine (List.Pairwise.filter _ ?_).imp (R := fun a b => a ≠ b) (fun h e => h (Int.ofNat_inj.1 e))
  rw [List.pairwise_map]
  refine (pairwise_range c).imp_of_mem ?_
  intro a b ha hb hab e
  have ha' := List.mem_range.1 ha
  have hb' := List.mem_range.1 hb
  have h1 := mod_two hf (show a < xs.length by omega)
  have h2 := mod_two hf (show b < xs.length by omega)
  rw [e, h2] at h1
  omega
theorem brk_same {xs : List ESegment} {f c : Nat} (hf : f < xs.length) (hc : c ≤ xs.length) : (brkI xs f c).mergeSort (fun x y => decide (x ≤ y)) = brkS xs f c xs.length := by
  have hp : ((brkI xs f c).mergeSort (fun x y => decide (x ≤ y))).Perm (brkS xs f c xs.length) :=
    (List.mergeSort_perm _ _).trans ((List.perm_ext_iff_of_nodup (brkI_nodup hf hc) (brkS_nodup _ _ _ _)).2 (brk_mem hf hc))
  have h1 := List.pairwise_mergeSort (le := fun (x y : Int) => decide (x ≤ y)) (fun a b c h1 h2 => by simp at *; omega) (fun a b => by simp; omega) (brkI xs f c)
  refine hp.eq_of_pairwise (le := fun a b => a ≤ b) (fun a b _ _ h1 h2 => Int.le_antisymm h1 h2) (h1.imp (fun h => by simpa using h)) ((brkS_sorted _ _ _ _).imp (fun h => Int.le_of_lt h))
end Go.Proofs.Ytinkhjjeflhagaa
