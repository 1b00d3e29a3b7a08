/- Contracts: the library's searches with a function, at lists of lines. -/
import Derived.Test.YteielmihlfakgaaDoorProg
import Derived.Test.YteielmihlfakgaaDoorLineS
import Derived.Test.YteielmihlfakgaaDoorFunc
namespace Go.Proofs.YteielmihlfakgaaDoor
open Go Go.Proofs Go.RowKit
set_option linter.unusedVariables false
set_option linter.unusedSimpArgs false
set_option maxRecDepth 100000
theorem idx_map {α β : Type} (g : α → β) (p : β → Bool) (xs : List α) : idx (fun x => p (g x)) xs = idx p (xs.map g) := by
  unfold idx
  rw [List.findIdx?_map]
  rfl
set_option maxHeartbeats 800000 in
theorem indexFuncLn_any (F : FuncId) (caps : Array Value) (p : LineD → Bool) (v : Value) (ls : List LineD) (w : World) (hv : RdLn w v ls)
    (hF : ∀ args w, Sem.run Tryd.prog (callFunc F args) w = .ok (.enter F args) w)
    (hp : ∀ (x : LineD) (tv : Value) w1, x ∈ ls → New w w1 → Rd w1 tv x.terms.length (x.terms.flatMap encTerm) → Calls Tryd.prog F (#[.agg #[.string x.target, tv]] ++ caps) w1 fun e w' => e = .returned (.bool (p x)) ∧ New w1 w') :
    Calls Tryd.prog 88 #[v, .func (.func F) #[] caps] w (RetVal w (.int .i64 (idx p ls))) := by
  obtain ⟨ps, rfl, h1, h2⟩ := hv
  obtain ⟨a, cap, rfl, hm, HC⟩ := Rd.flat encLV_len (by omega) h1
  clear h1
  have HP := Lib.hid (fun (x : LV) w1 (hx : x ∈ ps) (n : New w w1) => hp x.1 x.2 w1 (List.mem_map_of_mem hx) n ((h2 x hx).new n)); clear hp h2
  rw [← idx_map]
  generalize hpp : (fun x : LV => p x.1) = pp
  replace HP : Hid (∀ (x : LV) w1 (hx : x ∈ ps) (n : New w w1), Calls Tryd.prog F (#[.agg #[.string x.1.target, x.2]] ++ caps) w1 fun e w' => e = .returned (.bool (pp x)) ∧ New w1 w') := by subst hpp; exact HP
  clear hpp
  go_enter Tryd.func88, Tryd.ntmps88
  go_wp2_with fail
  go_loopw [8] (fun i wr => ∃ k : Nat, k ≤ ps.length ∧ i = .int .i64 k ∧ Hid ((ps.take k).findIdx? pp = none) ∧ New w wr) (fun i _ => ps.length - (intOf i).toNat)
  case atStart => exact ⟨0, Nat.zero_le _, rfl, rfl, New.refl _⟩
  case round =>
    obtain ⟨k, hk, rfl, hpre, hb⟩ := hrel
    obtain ⟨c, f⟩ := hb.rules
    by_cases hlt : k < ps.length
    · obtain ⟨b, off, rfl, hbl, hx⟩ := HC.out k hlt
      have x0 := hx 0 _ (by omega) rfl
      have x1 := hx 1 _ (by omega) rfl
      rw [Nat.add_zero] at x0
      replace hx := Lib.hid hx
      have HT := Lib.hid (take_find hlt hpre.out)
      go_wp2_with fail
      refine (HP.out ps[k] _ (by simp) hb).mono ?_
      rintro e w2 ⟨rfl, hb2⟩
      go_wp2_with fail
      · have hh : pp ps[k] = true := by assumption
        go_ret
        exact ⟨by rw [idx_some (HT.out.1 hh)]; rfl, hb.trans hb2⟩
      · have hh : pp ps[k] = false := by assumption
        go_roundw
        case rel => exact ⟨k + 1, by omega, by go_num, Lib.hid (HT.out.2 hh), hb.trans hb2⟩
        case measure => simp [intOf]; omega
    · obtain rfl : k = ps.length := by omega
      go_wp2_with fail
      go_ret
      exact ⟨by rw [idx_none (by simpa using hpre.out)]; rfl, hb⟩
theorem containsFuncLn_any (F : FuncId) (caps : Array Value) (p : LineD → Bool) (v : Value) (ls : List LineD) (w : World) (hv : RdLn w v ls)
    (hF : ∀ args w, Sem.run Tryd.prog (callFunc F args) w = .ok (.enter F args) w)
    (hp : ∀ (x : LineD) (tv : Value) w1, x ∈ ls → New w w1 → Rd w1 tv x.terms.length (x.terms.flatMap encTerm) → Calls Tryd.prog F (#[.agg #[.string x.target, tv]] ++ caps) w1 fun e w' => e = .returned (.bool (p x)) ∧ New w1 w') :
    Calls Tryd.prog 85 #[v, .func (.func F) #[] caps] w (RetVal w (.bool (ls.any p))) := by
  have HV := Lib.hid hv; clear hv
  have HP := Lib.hid hp; clear hp
  have HI := Lib.hid (idx_any p ls)
  go_enter Tryd.func85, Tryd.ntmps85
  go_wp2_with fail
  refine (indexFuncLn_any F caps p v ls w HV.out hF HP.out).mono ?_
  rintro e w2 ⟨rfl, hb2⟩
  go_wp2_with fail
  go_ret
  exact ⟨ret_bool HI.out, hb2⟩
end Go.Proofs.YteielmihlfakgaaDoor
