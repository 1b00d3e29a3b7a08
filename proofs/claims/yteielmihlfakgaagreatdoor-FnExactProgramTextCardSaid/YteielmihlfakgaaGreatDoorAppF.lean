/- Append to a fresh empty slice: new memory alone. -/
import Derived.Laws.AppendOwn
import Derived.Laws.Append
import Derived.Deep.Upon
import Derived.Test.YteielmihlfakgaaGreatDoorProg
import Derived.Test.YteielmihlfakgaaGreatDoorVB
import Derived.Test.YteielmihlfakgaaGreatDoorVA
namespace Go.Proofs.YteielmihlfakgaaGreatDoor
open Go Go.Proofs Go.RowKit
set_option linter.unusedVariables false
set_option linter.unusedSimpArgs false
theorem run_append_fresh {P : Program} (w : World) (base : Nat) (t ty e : TypeId) (i : TypeInfo) (z : Value) (size bytes : Nat) (ht : P.underlying t = some (.slice e)) (hi : P.info? e = some i) (hz : i.zero = some z)
    (hsize : i.size = size) (hby : i.bytes = bytes) (hzs : z.cells.size = size) (hsz : 0 < size) (g : Nat) (hbg : base ≤ g) (hg : Blk w g #[] e) (xv : Value) (m : Nat) (news : List Value) (hrd : Rd w xv m news) (hl : news.length = m * size) (h1 : ∀ u ∈ news, u.oneCell' = true)
    (h63 : m ≤ maxLen) (hbytes : m * bytes ≤ 140737488355328) (hbw : base ≤ w.heap.size) :
    ∃ v' w', (Builtin.append_ #[t, t] ty #[.slice (some ⟨g, 0, none⟩) 0 0, xv]).run P w = .ok v' w' ∧ New w w' ∧ w'.ownsRow base e size v' m news := by
  obtain ⟨ad, cap, rfl, _, ⟨h0, _⟩, hc⟩ := hrd
  have hm63 : m ≤ 9223372036854775807 := by simp only [maxLen] at h63; omega
  have hown : w.ownsRow base e size (.slice (some ⟨g, 0, none⟩) 0 0) 0 [] := ⟨by simp, .inr ⟨g, 0, #[], rfl, hbg, hg, Nat.le_refl _, Nat.zero_le _, by simp, by simp⟩⟩
  cases ad with
  | none =>
    have hm : m = 0 := h0 rfl
    subst hm
    have hn : news = [] := List.eq_nil_of_length_eq_zero (by simpa using hl)
    subst hn
    exact ⟨_, w, run_append_nothing (P := P) w t t ty e i ht hi _ 0 0 (Nat.le_refl _) (.slice none 0 cap) (Src.ofNil w ht cap), New.refl _, hown⟩
  | some ad =>
    have hnews : ∀ j v, news[j]? = some v → w.cell? (ad.add j) = some v := fun j u hu => by
      obtain ⟨b, off, hae, _, hcell⟩ := hc j u hu
      cases hae
      have e : (⟨b, off, none⟩ : Addr).add j = ⟨b, off + j, none⟩ := by unfold Addr.add; split <;> simp_all
      rw [e]; exact hcell
    obtain ⟨v', w', hr, h2, _, -⟩ := run_append_own (P := P) w base t ty e i z size bytes ht hi hz hsize hby hzs hsz _ 0 [] hown ad m cap news hl hnews h1 (by omega) (by rw [Nat.zero_add]; exact hbytes) hbw
    rw [Nat.zero_add, List.nil_append] at h2
    refine ⟨v', w', hr, ?_, h2⟩
    subst hsize
    subst hby
    rcases Nat.eq_zero_or_pos m with hm | hm
    · subst hm
      have hn : news = [] := List.eq_nil_of_length_eq_zero (by simpa using hl)
      subst hn
      have hr' := run_append_room (P := P) (w := w) t ty e i ht hi g 0 0 #[] hg ad 0 cap [] (by simp) (fun j u hu => by simp at hu) (fun u hu => by cases hu) (Nat.le_refl _) (by simp)
      rw [hr'] at hr
      cases hr
      refine ⟨rfl, rfl, rfl, by simp [World.setRow], fun k hk => ?_⟩
      rcases Nat.decEq k g with hkg | hkg
      · exact setRow_other w g k _ hkg
      · subst hkg
        rw [setRow_heap w k _ _ _ _ hg]
        simpa [Blk] using hg.symm
    · have hr' := run_append_grow (P := P) w t ty e i z ht hi hz ⟨g, 0, none⟩ 0 0 [] (by simp) (fun j u hu => by simp at hu) ad m cap news hl hnews (by omega) (by omega) (growslice_fits (by omega) (by rw [Nat.zero_add]; exact hbytes))
      rw [hr'] at hr
      cases hr
      exact ((New.refl w).drew).alloc _
theorem wp_append_fresh {P : Program} {w : World} {o : Oper} {a : Act} {K : Act → World → Prop} {Q : Exit → Act → World → Prop} (s x : Operand) (t : TypeId)
    (ho : o.op = .call { callee := .builtin .append, args := #[s, x], argTypes := #[t, t] })
    (e : TypeId) (i : TypeInfo) (z : Value) (size bytes : Nat) (ht : P.underlying t = some (.slice e)) (hi : P.info? e = some i) (hz : i.zero = some z) (hsize : i.size = size) (hby : i.bytes = bytes) (hzs : z.cells.size = size) (hsz : 0 < size)
    (base g : Nat) (hbg : base ≤ g) (hs : a.eval s = .slice (some ⟨g, 0, none⟩) 0 0) (hg : Blk w g #[] e) (xv : Value) (m : Nat) (news : List Value) (hx : a.eval x = xv) (hrd : Rd w xv m news) (hl : news.length = m * size) (h1 : ∀ u ∈ news, u.oneCell' = true)
    (h63 : m ≤ maxLen) (hbytes : m * bytes ≤ 140737488355328) (hbw : base ≤ w.heap.size) (h : ∀ v' w', New w w' → w'.ownsRow base e size v' m news → K (a.put o.dst v') w') : o.wp P a w K Q := by
  obtain ⟨v', w', hrun, h2, h3⟩ := run_append_fresh (P := P) w base t o.type e i z size bytes ht hi hz hsize hby hzs hsz g hbg hg xv m news hrd hl h1 h63 hbytes hbw
  unfold Oper.wp
  simp [execOp, ho, resolve, invoke, builtin, hs, hx, hrun, Result.andThen]
  exact h v' w' h2 h3
end Go.Proofs.YteielmihlfakgaaGreatDoor
