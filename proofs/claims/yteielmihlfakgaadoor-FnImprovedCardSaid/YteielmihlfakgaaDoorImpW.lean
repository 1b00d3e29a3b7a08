/- Contracts: the improving of a code. -/
import Derived.WalkSpells
import Derived.Test.YteielmihlfakgaaDoorProg
import Derived.Test.YteielmihlfakgaaDoorImpP
import Derived.Test.YteielmihlfakgaaDoorUH
import Derived.Test.YteielmihlfakgaaDoorCloneW
import Derived.Test.YteielmihlfakgaaDoorUD
import Derived.Test.YteielmihlfakgaaDoorUG
namespace Go.Proofs.YteielmihlfakgaaDoor
open Go Go.Proofs Go.RowKit
set_option linter.unusedVariables false
set_option linter.unusedSimpArgs false
set_option maxRecDepth 100000
/-- What replaces two instructions, in new memory. -/
def RetBet (w : World) (x y : EInstruction) (e : Ending) (w' : World) : Prop :=
  ∃ v, e = .returned (.tuple #[v, .bool (betterI x y).isSome]) ∧ New w w' ∧
    ((betterI x y = none ∧ v = .slice none 0 0) ∨ ∃ zs, betterI x y = some zs ∧ RplZ w' v zs ∧ ∀ b o n c, v = .slice (some ⟨b, o, none⟩) n c → w.heap.size ≤ b)
theorem bet_none {w w' : World} {x y : EInstruction} (h : betterI x y = none) (hn : New w w') : RetBet w x y (.returned (.tuple #[.slice none 0 0, .bool false])) w' :=
  ⟨_, by rw [h]; rfl, hn, .inl ⟨h, rfl⟩⟩
theorem bet_nil {w w' : World} {x y : EInstruction} (h : betterI x y = some []) (hn : New w w') : RetBet w x y (.returned (.tuple #[.slice none 0 0, .bool true])) w' :=
  ⟨_, by rw [h]; rfl, hn, .inr ⟨[], h, .inl ⟨rfl, rfl⟩, fun b o n c e => by cases e⟩⟩
theorem bet_push {w w1 : World} {a b v : Int} {T : TypeId} (hv : v = 1 - a) (hn : New w w1) {k : Nat} (hk : k = w1.heap.size) : RetBet w ⟨1, a⟩ ⟨4, b⟩ (.returned (.tuple #[.slice (some ⟨k, 0, none⟩) 1 1, .bool true])) (w1.alloc (.cells #[.int .i64 1, .int .i64 v] T)) := by
  subst hv hk
  have h : betterI ⟨1, a⟩ ⟨4, b⟩ = some [⟨1, 1 - a⟩] := by unfold betterI; simp
  have hz := hn.size
  refine ⟨_, by rw [h]; rfl, hn.alloc _, .inr ⟨_, h, .inr ⟨_, _, rfl, rfl, by simp, ?_, ?_⟩, fun b' o n c e => by cases e; omega⟩⟩
  · rw [cell_alloc_new _ _ _ _ _ rfl]; rfl
  · rw [cell_alloc_new _ _ _ _ _ rfl]; rfl
set_option maxHeartbeats 1000000 in
theorem sBetter_any (x y : EInstruction) (w : World) (ha : x.op = 1 → x.arg = 0 ∨ x.arg = 1) :
    Calls Tryd.prog 126 #[.agg #[.int .i64 x.op, .int .i64 x.arg], .agg #[.int .i64 y.op, .int .i64 y.arg]] w (RetBet w x y) := by
  obtain ⟨o, a⟩ := x
  obtain ⟨p, b⟩ := y
  dsimp only at ha ⊢
  have zz : w.heap.size < w.heap.size + 1 + 1 := by omega
  by_cases hp : o = 1 ∧ p = 4
  · obtain ⟨rfl, rfl⟩ := hp
    rcases ha rfl with rfl | rfl
    · clear ha
      go_enter Tryd.func126, Tryd.ntmps126
      go_wp2_with fail
      go_ret2
      exact bet_push (by decide) (by repeat (first | with_reducible exact New.refl _ | with_reducible assumption | with_reducible refine New.drew ?_ | with_reducible refine New.drewN ?_ _ | with_reducible refine New.alloc ?_ _ | with_reducible refine New.setCell ?_ (by first | (simp; done) | (simp; omega) | omega) _ | with_reducible refine New.trans ?_ (by with_reducible assumption))) (by simp)
    · clear ha
      go_enter Tryd.func126, Tryd.ntmps126
      go_wp2_with fail
      go_ret2
      exact bet_push (by decide) (by repeat (first | with_reducible exact New.refl _ | with_reducible assumption | with_reducible refine New.drew ?_ | with_reducible refine New.drewN ?_ _ | with_reducible refine New.alloc ?_ _ | with_reducible refine New.setCell ?_ (by first | (simp; done) | (simp; omega) | omega) _ | with_reducible refine New.trans ?_ (by with_reducible assumption))) (by simp)
  · go_enter Tryd.func126, Tryd.ntmps126
    go_wp2_with fail
    all_goals go_ret2
    all_goals (try simp only [beq_iff_eq, bne_iff_ne, beq_eq_false_iff_ne, bne_eq_false_iff_eq, decide_eq_true_eq, decide_eq_false_iff_not, ne_eq, Bool.not_eq_true, Bool.not_eq_false] at *)
    all_goals first
      | exact bet_nil (by unfold betterI; simp_all) (by repeat (first | with_reducible exact New.refl _ | with_reducible assumption | with_reducible refine New.drew ?_ | with_reducible refine New.drewN ?_ _ | with_reducible refine New.alloc ?_ _ | with_reducible refine New.setCell ?_ (by first | (simp; done) | (simp; omega) | omega) _ | with_reducible refine New.trans ?_ (by with_reducible assumption)))
      | exact bet_none (by unfold betterI; simp_all) (by repeat (first | with_reducible exact New.refl _ | with_reducible assumption | with_reducible refine New.drew ?_ | with_reducible refine New.drewN ?_ _ | with_reducible refine New.alloc ?_ _ | with_reducible refine New.setCell ?_ (by first | (simp; done) | (simp; omega) | omega) _ | with_reducible refine New.trans ?_ (by with_reducible assumption)))
      | (exfalso; simp_all; done)
set_option maxHeartbeats 1000000 in
theorem iBetter_any (x y : EInstruction) (w : World) (ha : x.op = 1 → x.arg = 0 ∨ x.arg = 1) :
    Calls Tryd.prog 123 #[.agg #[.int .i64 x.op, .int .i64 x.arg], .agg #[.int .i64 y.op, .int .i64 y.arg]] w (RetBet w x y) := by
  obtain ⟨o, a⟩ := x
  obtain ⟨p, b⟩ := y
  dsimp only at ha ⊢
  have zz : w.heap.size < w.heap.size + 1 + 1 := by omega
  by_cases hp : o = 1 ∧ p = 4
  · obtain ⟨rfl, rfl⟩ := hp
    rcases ha rfl with rfl | rfl
    · clear ha
      go_enter Tryd.func123, Tryd.ntmps123
      go_wp2_with fail
      go_ret2
      exact bet_push (by decide) (by repeat (first | with_reducible exact New.refl _ | with_reducible assumption | with_reducible refine New.drew ?_ | with_reducible refine New.drewN ?_ _ | with_reducible refine New.alloc ?_ _ | with_reducible refine New.setCell ?_ (by first | (simp; done) | (simp; omega) | omega) _ | with_reducible refine New.trans ?_ (by with_reducible assumption))) (by simp)
    · clear ha
      go_enter Tryd.func123, Tryd.ntmps123
      go_wp2_with fail
      go_ret2
      exact bet_push (by decide) (by repeat (first | with_reducible exact New.refl _ | with_reducible assumption | with_reducible refine New.drew ?_ | with_reducible refine New.drewN ?_ _ | with_reducible refine New.alloc ?_ _ | with_reducible refine New.setCell ?_ (by first | (simp; done) | (simp; omega) | omega) _ | with_reducible refine New.trans ?_ (by with_reducible assumption))) (by simp)
  · go_enter Tryd.func123, Tryd.ntmps123
    go_wp2_with fail
    all_goals go_ret2
    all_goals (try simp only [beq_iff_eq, bne_iff_ne, beq_eq_false_iff_ne, bne_eq_false_iff_eq, decide_eq_true_eq, decide_eq_false_iff_not, ne_eq, Bool.not_eq_true, Bool.not_eq_false] at *)
    all_goals first
      | exact bet_nil (by unfold betterI; simp_all) (by repeat (first | with_reducible exact New.refl _ | with_reducible assumption | with_reducible refine New.drew ?_ | with_reducible refine New.drewN ?_ _ | with_reducible refine New.alloc ?_ _ | with_reducible refine New.setCell ?_ (by first | (simp; done) | (simp; omega) | omega) _ | with_reducible refine New.trans ?_ (by with_reducible assumption)))
      | exact bet_none (by unfold betterI; simp_all) (by repeat (first | with_reducible exact New.refl _ | with_reducible assumption | with_reducible refine New.drew ?_ | with_reducible refine New.drewN ?_ _ | with_reducible refine New.alloc ?_ _ | with_reducible refine New.setCell ?_ (by first | (simp; done) | (simp; omega) | omega) _ | with_reducible refine New.trans ?_ (by with_reducible assumption)))
      | (exfalso; simp_all; done)
theorem bet_some {w : World} {x y : EInstruction} {zs : List EInstruction} {f : FuncId} {args : Array Value} (h : betterI x y = some zs) (hc : Calls Tryd.prog f args w (RetBet w x y)) :
    Calls Tryd.prog f args w fun e w' => ∃ v, e = .returned (.tuple #[v, .bool true]) ∧ New w w' ∧ RplZ w' v zs :=
  hc.mono fun e w' ⟨v, he, hn, hr⟩ => by
    rw [h] at he hr
    rcases hr with ⟨h0, _⟩ | ⟨zs', h1, h2, _⟩
    · cases h0
    · cases h1
      exact ⟨v, he, hn, h2⟩
theorem bet_no {w : World} {x y : EInstruction} {f : FuncId} {args : Array Value} (h : betterI x y = none) (hc : Calls Tryd.prog f args w (RetBet w x y)) :
    Calls Tryd.prog f args w fun e w' => e = .returned (.tuple #[.slice none 0 0, .bool false]) ∧ New w w' :=
  hc.mono fun e w' ⟨v, he, hn, hr⟩ => by
    rw [h] at he hr
    rcases hr with ⟨_, h0⟩ | ⟨zs', h1, _⟩
    · subst h0; exact ⟨he, hn⟩
    · cases h1
theorem repl_args {xs zs : List EInstruction} {k : Nat} (h : onceI xs = some (xs.take k ++ zs ++ xs.drop (k + 2))) (ha : okArgs xs) : okArgs (xs.take k ++ zs ++ xs.drop (k + 2)) := once_args h ha
theorem rdN_nil {w : World} {a : Option Addr} {c : Nat} : RdN w (.slice a 0 c) [] := ⟨a, c, rfl, by simp, ⟨fun _ => rfl, by simp⟩, fun j u hu => by simp at hu⟩
theorem own_eqI {w : World} {base : Nat} {e : TypeId} {sz : Nat} {v : Value} {n m : Nat} {cs ds : List Value} (h : w.ownsRow base e sz v n cs) (hn : n = m) (hc : cs = ds) : w.ownsRow base e sz v m ds := by subst hn hc; exact h
theorem flatI_app (xs ys : List EInstruction) : (xs ++ ys).flatMap encInstruction = xs.flatMap encInstruction ++ ys.flatMap encInstruction := List.flatMap_append
theorem rplZ_rd {w : World} {v : Value} {zs : List EInstruction} (h : RplZ w v zs) : RdN w v zs := by
  rcases h with ⟨rfl, rfl⟩ | ⟨b, z, rfl, rfl, hb, h0, h1⟩
  · exact ⟨none, 0, rfl, by simp, ⟨fun _ => rfl, by simp⟩, fun j u hu => by simp at hu⟩
  · refine ⟨_, 1, rfl, by simp, ⟨fun h => by (cases h), Nat.le_refl _⟩, fun j u hu => ?_⟩
    match j, hu with
    | 0, hu => simp [encInstruction] at hu; subst hu; exact ⟨b, 0, rfl, hb, h0⟩
    | 1, hu => simp [encInstruction] at hu; subst hu; exact ⟨b, 0, rfl, hb, h1⟩
    | (j + 2), hu => simp [encInstruction] at hu
theorem rplZ_len {w : World} {v : Value} {zs : List EInstruction} (h : RplZ w v zs) : zs.length ≤ 1 := by
  rcases h with ⟨rfl, rfl⟩ | ⟨_, _, rfl, rfl, _⟩ <;> simp
theorem rplZ_new {w w' : World} {v : Value} {zs : List EInstruction} (h : RplZ w v zs) (hn : New w w') : RplZ w' v zs := by
  rcases h with h | ⟨b, z, rfl, rfl, hb, h0, h1⟩
  · exact .inl h
  · exact .inr ⟨b, z, rfl, rfl, by have := hn.size; omega, (hn.cell hb).trans h0, (hn.cell hb).trans h1⟩
/-- A slice's elements from the j-th on. -/
theorem rdN_drop {w : World} {a : Option Addr} {cap j : Nat} {xs : List EInstruction} (hj : j ≤ xs.length) (h : RdN w (.slice a xs.length cap) xs) (b off : Nat) (ha : a = some ⟨b, off, none⟩) (c : Nat) (hc : xs.length - j ≤ c) : RdN w (.slice (some ⟨b, off + j * 2, none⟩) (xs.length - j) c) (xs.drop j) := by
  subst ha
  obtain ⟨a', cap', e, hm, h0, hcell⟩ := h
  cases e
  refine ⟨_, c, by rw [List.length_drop], by rw [List.length_drop]; omega, ⟨fun h => by (cases h), by rw [List.length_drop]; exact hc⟩, fun k u hu => ?_⟩
  have hl : ((xs.take j).flatMap encInstruction).length = j * 2 := by rw [lenI, List.length_take, Nat.min_eq_left hj]
  have h2 : (xs.flatMap encInstruction)[j * 2 + k]? = some u := by
    have e : (xs.take j).flatMap encInstruction ++ (xs.drop j).flatMap encInstruction = xs.flatMap encInstruction := by rw [← List.flatMap_append, List.take_append_drop]
    rw [← e, List.getElem?_append_right (by omega), hl, Nat.add_sub_cancel_left]; exact hu
  obtain ⟨b', off', hae, hb', hc'⟩ := hcell _ _ h2
  cases hae
  exact ⟨_, _, rfl, hb', by rw [Nat.add_assoc]; exact hc'⟩
set_option maxHeartbeats 2000000 in
theorem sImprove_any : ∀ (n : Nat) (v : Value) (xs : List EInstruction) (w : World), xs.length = n → n ≤ 2000 → okArgs xs → RdN w v xs →
    Calls Tryd.prog 76 #[v] w fun e w' => ∃ r, e = .returned r ∧ New w w' ∧ w'.ownsRow w.heap.size 94 2 r (impI xs).length ((impI xs).flatMap encInstruction) := by
  intro n
  induction n using Nat.strongRecOn with
  | _ n ih =>
    intro v xs w hl hn ha hv
    have IH := Lib.hid (fun (v : Value) (ys : List EInstruction) (w0 : World) (h : ys.length < n) (h2 : okArgs ys) (h3 : RdN w0 v ys) => ih _ h v ys w0 rfl (by omega) h2 h3); clear ih
    have HA := Lib.hid ha; clear ha
    have HL := Lib.hid hl
    have hxl : xs.length ≤ 2000 := by omega
    clear hl hn
    have HV := Lib.hid hv
    obtain ⟨i0, hi, hz0, hz1, hz2⟩ := info_parts infoInstruction
    obtain ⟨a, cap, rfl, hm, HC⟩ := Rd.flat encInstruction_len (by omega) hv
    have hcap := Rd.cap hv
    clear hv
    go_enter Tryd.func76, Tryd.ntmps76
    go_wp2_with fail
    go_loopw [3] (fun i wr => ∃ k : Nat, k ≤ xs.length ∧ i = .int .i64 k ∧ Hid (PreI xs k) ∧ New w wr) (fun i _ => xs.length - (intOf i).toNat)
    case atStart => exact ⟨0, Nat.zero_le _, rfl, Lib.hid (pre_zero xs), (by repeat (first | with_reducible exact New.refl _ | with_reducible assumption | with_reducible refine New.drew ?_ | with_reducible refine New.drewN ?_ _ | with_reducible refine New.alloc ?_ _ | with_reducible refine New.setCell ?_ (by first | (simp; done) | (simp; omega) | omega) _ | with_reducible refine New.trans ?_ (by with_reducible assumption)))⟩
    case round =>
      obtain ⟨k, hk, rfl, hpre, hb⟩ := hrel
      obtain ⟨cc, f'⟩ := hb.rules
      have hbz := hb.size
      by_cases hlt : k + 1 < xs.length
      · have hlt0 : k < xs.length := by omega
        obtain ⟨b, off, rfl, hbl, hx⟩ := HC.out k hlt0
        obtain ⟨b', off', hae, hbl', hy⟩ := HC.out (k + 1) hlt
        obtain ⟨rfl, rfl⟩ : b = b' ∧ off = off' := by cases hae; exact ⟨rfl, rfl⟩
        have x0 := hx 0 _ (by omega) rfl
        have x1 := hx 1 _ (by omega) rfl
        have y0 := hy 0 _ (by omega) rfl
        have y1 := hy 1 _ (by omega) rfl
        rw [Nat.add_zero] at x0 y0
        have hbw : b < wr.heap.size := by omega
        clear hx hy hae
        have HB := Lib.hid (fun (w0 : World) => sBetter_any xs[k] xs[k + 1] w0 (HA.out _ (List.getElem_mem hlt0)))
        have HP1 := Lib.hid (fun (zs : List EInstruction) (h : betterI xs[k] xs[k + 1] = some zs) => pre_at hlt h hpre.out)
        have HP2 := Lib.hid (fun (h : betterI xs[k] xs[k + 1] = none) => pre_next hlt h hpre.out)
        generalize xs[k] = x at x0 x1 HB HP1 HP2
        generalize xs[k + 1] = y at y0 y1 HB HP1 HP2
        have hwk : IntKind.i64.wrap ((k : Int) + 1) = (k : Int) + 1 := IntWalk.i64_in _ (by omega)
        have hkt : ((k : Int) + 1).toNat = k + 1 := by omega
        have hk0 : (0 : Int) ≤ (k : Int) + 1 := by omega
        have hk1 : (k : Int) + 1 < xs.length := by omega
        cases hB : betterI x y with
        | none =>
          have HN := Lib.hid (fun w0 => bet_no hB (HB.out w0))
          have HPN := Lib.hid (HP2.out hB)
          clear HB HP1 HP2 hB
          go_wp2_with fail
          refine RG.wp_facts [fun X _ => X = .slice (some ⟨b, off, none⟩) xs.length cap, fun X _ => X = .int .i64 (k : Int), fun X _ => X = .pointer (some ⟨b, off + k * 2, none⟩), fun X _ => X = .agg #[.int .i64 x.op, .int .i64 x.arg], fun X _ => X = .slice (some ⟨b, off, none⟩) xs.length cap, fun X _ => X = .int .i64 (k : Int), fun X _ => X = .int .i64 ((k : Int) + 1), fun X _ => X = .pointer (some ⟨b, off + (k + 1) * 2, none⟩), fun X _ => X = .agg #[.int .i64 y.op, .int .i64 y.arg], fun X _ => X = .tuple #[.slice none 0 0, .bool false], fun X _ => X = .tuple #[.slice none 0 0, .bool false], fun X _ => X = .slice none 0 0, fun X _ => X = .bool false, fun X _ => X = .slice none 0 0, fun X _ => X = .bool false] (by kernel_rfl) (by kernel_rfl) ⟨RG.stable_eq _, RG.stable_eq _, RG.stable_eq _, RG.stable_eq _, RG.stable_eq _, RG.stable_eq _, RG.stable_eq _, RG.stable_eq _, RG.stable_eq _, RG.stable_eq _, RG.stable_eq _, RG.stable_eq _, RG.stable_eq _, RG.stable_eq _, RG.stable_eq _, trivial⟩ ?_ ?_
          · refine ⟨?_, ?_, ?_, ?_, ?_, ?_, ?_, ?_, ?_, ?_, ?_, ?_, ?_, ?_, ?_, trivial⟩
            · intro a w9 hw ho hk
              refine .inl ⟨by rfl, ?_⟩
              have t2 := ho 0 rfl
              dsimp at t2
              try with_reducible replace hw := New.undrawN hw
              try with_reducible replace hw := New.undraw hw
              obtain ⟨c, f'⟩ := hw.rules
              go_simp
              exact New.refl _
            · intro a w9 hw ho hk
              refine .inl ⟨by rfl, ?_⟩
              have t2 := ho 3 rfl
              dsimp at t2
              try with_reducible replace hw := New.undrawN hw
              try with_reducible replace hw := New.undraw hw
              obtain ⟨c, f'⟩ := hw.rules
              go_simp
              exact New.refl _
            · intro a w9 hw ho hk
              refine .inl ⟨by rfl, ?_⟩
              have t15 : a.tmps[15]?.getD undef = .slice (some ⟨b, off, none⟩) xs.length cap := hk 0 15 (by kernel_rfl) rfl
              have t16 : a.tmps[16]?.getD undef = .int .i64 (k : Int) := hk 1 16 (by kernel_rfl) rfl
              go_simp
              exact New.refl _
            · intro a w9 hw ho hk
              refine .inl ⟨by rfl, ?_⟩
              have t17 : a.tmps[17]?.getD undef = .pointer (some ⟨b, off + k * 2, none⟩) := hk 2 17 (by kernel_rfl) rfl
              try with_reducible replace hw := New.undrawN hw
              try with_reducible replace hw := New.undraw hw
              obtain ⟨c, f'⟩ := hw.rules
              go_simp
              exact New.refl _
            · intro a w9 hw ho hk
              refine .inl ⟨by rfl, ?_⟩
              have t2 := ho 0 rfl
              dsimp at t2
              try with_reducible replace hw := New.undrawN hw
              try with_reducible replace hw := New.undraw hw
              obtain ⟨c, f'⟩ := hw.rules
              go_simp
              exact New.refl _
            · intro a w9 hw ho hk
              refine .inl ⟨by rfl, ?_⟩
              have t2 := ho 3 rfl
              dsimp at t2
              try with_reducible replace hw := New.undrawN hw
              try with_reducible replace hw := New.undraw hw
              obtain ⟨c, f'⟩ := hw.rules
              go_simp
              exact New.refl _
            · intro a w9 hw ho hk
              refine .inl ⟨by rfl, ?_⟩
              have t20 : a.tmps[20]?.getD undef = .int .i64 (k : Int) := hk 5 20 (by kernel_rfl) rfl
              go_simp
              exact New.refl _
            · intro a w9 hw ho hk
              refine .inl ⟨by rfl, ?_⟩
              have t19 : a.tmps[19]?.getD undef = .slice (some ⟨b, off, none⟩) xs.length cap := hk 4 19 (by kernel_rfl) rfl
              have t21 : a.tmps[21]?.getD undef = .int .i64 ((k : Int) + 1) := hk 6 21 (by kernel_rfl) rfl
              go_simp
              exact New.refl _
            · intro a w9 hw ho hk
              refine .inl ⟨by rfl, ?_⟩
              have t22 : a.tmps[22]?.getD undef = .pointer (some ⟨b, off + (k + 1) * 2, none⟩) := hk 7 22 (by kernel_rfl) rfl
              try with_reducible replace hw := New.undrawN hw
              try with_reducible replace hw := New.undraw hw
              obtain ⟨c, f'⟩ := hw.rules
              go_simp
              exact New.refl _
            · intro a w9 hw ho hk
              refine .inl ⟨by rfl, ?_⟩
              have t18 : a.tmps[18]?.getD undef = .agg #[.int .i64 x.op, .int .i64 x.arg] := hk 3 18 (by kernel_rfl) rfl
              have t23 : a.tmps[23]?.getD undef = .agg #[.int .i64 y.op, .int .i64 y.arg] := hk 8 23 (by kernel_rfl) rfl
              go_simp
              refine (HN.out _).mono ?_; rintro e w2 ⟨rfl, hb⟩
              first | exact ⟨hb, _, rfl, by simp⟩ | exact ⟨hb, by simp⟩
            · intro a w9 hw ho hk
              refine .inl ⟨by rfl, ?_⟩
              have t24 : a.tmps[24]?.getD undef = .tuple #[.slice none 0 0, .bool false] := hk 9 24 (by kernel_rfl) rfl
              go_simp
              exact New.refl _
            · intro a w9 hw ho hk
              refine .inl ⟨by rfl, ?_⟩
              have t14 : a.tmps[14]?.getD undef = .tuple #[.slice none 0 0, .bool false] := hk 10 14 (by kernel_rfl) rfl
              go_simp
              exact New.refl _
            · intro a w9 hw ho hk
              refine .inl ⟨by rfl, ?_⟩
              have t14 : a.tmps[14]?.getD undef = .tuple #[.slice none 0 0, .bool false] := hk 10 14 (by kernel_rfl) rfl
              go_simp
              exact New.refl _
            · intro a w9 hw ho hk
              refine .inl ⟨by rfl, ?_⟩
              have t25 : a.tmps[25]?.getD undef = .slice none 0 0 := hk 11 25 (by kernel_rfl) rfl
              go_simp
              exact New.refl _
            · intro a w9 hw ho hk
              refine .inl ⟨by rfl, ?_⟩
              have t26 : a.tmps[26]?.getD undef = .bool false := hk 12 26 (by kernel_rfl) rfl
              go_simp
              exact New.refl _
          intro w4 b4
          rintro _ rfl _ rfl _ rfl _ rfl _ rfl _ rfl _ rfl _ rfl _ rfl _ rfl _ rfl _ rfl _ rfl _ rfl _ rfl
          try with_reducible replace b4 := New.undrawN b4
          try with_reducible replace b4 := New.undraw b4
          obtain ⟨c4, f4⟩ := b4.rules
          have z4 := b4.size
          try simp only [World.size_alloc, World.size_drew, World.heap_drewN, World.size_setCell] at z4
          have z4_0 : b < w4.heap.size := by omega
          simp only [RG.EndAll, List.nil_append, List.cons_append, List.length_cons, List.length_nil, Nat.zero_add, Nat.reduceAdd, List.take_succ_cons, List.take_zero, List.drop_succ_cons, List.drop_zero, RG.putAll, Act.put, List.setIfInBounds_toArray, List.set_cons_succ, List.set_cons_zero]
          go_wp2_with fail
          go_roundw
          case rel => exact ⟨k + 1, by omega, by go_num, HPN, (by repeat (first | with_reducible exact New.refl _ | with_reducible assumption | with_reducible refine New.drew ?_ | with_reducible refine New.drewN ?_ _ | with_reducible refine New.alloc ?_ _ | with_reducible refine New.setCell ?_ (by first | (simp; done) | (simp; omega) | omega) _ | with_reducible refine New.trans ?_ (by with_reducible assumption)))⟩
          case measure => simp [intOf]; omega
        | some zs =>
          have HN := Lib.hid (fun w0 => bet_some hB (HB.out w0))
          have HPS := Lib.hid (HP1.out zs hB)
          clear HB HP1 HP2 hB
          have HRP := Lib.hid (repl_args HPS.out HA.out)
          have HST := Lib.hid (impI_step HPS.out)
          have hkn : (xs.take k ++ zs ++ xs.drop (k + 2)).length < n := by have := once_len HPS.out; have := HL.out; omega
          replace hkn := Lib.hid hkn
          go_wp2_with fail
          refine RG.wp_facts [fun X _ => X = .slice (some ⟨b, off, none⟩) xs.length cap, fun X _ => X = .int .i64 (k : Int), fun X _ => X = .pointer (some ⟨b, off + k * 2, none⟩), fun X _ => X = .agg #[.int .i64 x.op, .int .i64 x.arg], fun X _ => X = .slice (some ⟨b, off, none⟩) xs.length cap, fun X _ => X = .int .i64 (k : Int), fun X _ => X = .int .i64 ((k : Int) + 1), fun X _ => X = .pointer (some ⟨b, off + (k + 1) * 2, none⟩), fun X _ => X = .agg #[.int .i64 y.op, .int .i64 y.arg], fun X W' => ∃ v, X = .tuple #[v, .bool true] ∧ RplZ W' v zs, fun X W' => ∃ v, X = .tuple #[v, .bool true] ∧ RplZ W' v zs, fun X W' => RplZ W' X zs, fun X _ => X = .bool true, fun X W' => RplZ W' X zs, fun X _ => X = .bool true] (by kernel_rfl) (by kernel_rfl) ⟨RG.stable_eq _, RG.stable_eq _, RG.stable_eq _, RG.stable_eq _, RG.stable_eq _, RG.stable_eq _, RG.stable_eq _, RG.stable_eq _, RG.stable_eq _, fun X w0 w1 hn ⟨v24, t24, r24⟩ => ⟨v24, t24, rplZ_new r24 hn⟩, fun X w0 w1 hn ⟨v14, t14, r14⟩ => ⟨v14, t14, rplZ_new r14 hn⟩, fun X w0 w1 hn r25 => rplZ_new r25 hn, RG.stable_eq _, fun X w0 w1 hn r4 => rplZ_new r4 hn, RG.stable_eq _, trivial⟩ ?_ ?_
          · refine ⟨?_, ?_, ?_, ?_, ?_, ?_, ?_, ?_, ?_, ?_, ?_, ?_, ?_, ?_, ?_, trivial⟩
            · intro a w9 hw ho hk
              refine .inl ⟨by rfl, ?_⟩
              have t2 := ho 0 rfl
              dsimp at t2
              try with_reducible replace hw := New.undrawN hw
              try with_reducible replace hw := New.undraw hw
              obtain ⟨c, f'⟩ := hw.rules
              go_simp
              exact New.refl _
            · intro a w9 hw ho hk
              refine .inl ⟨by rfl, ?_⟩
              have t2 := ho 3 rfl
              dsimp at t2
              try with_reducible replace hw := New.undrawN hw
              try with_reducible replace hw := New.undraw hw
              obtain ⟨c, f'⟩ := hw.rules
              go_simp
              exact New.refl _
            · intro a w9 hw ho hk
              refine .inl ⟨by rfl, ?_⟩
              have t15 : a.tmps[15]?.getD undef = .slice (some ⟨b, off, none⟩) xs.length cap := hk 0 15 (by kernel_rfl) rfl
              have t16 : a.tmps[16]?.getD undef = .int .i64 (k : Int) := hk 1 16 (by kernel_rfl) rfl
              go_simp
              exact New.refl _
            · intro a w9 hw ho hk
              refine .inl ⟨by rfl, ?_⟩
              have t17 : a.tmps[17]?.getD undef = .pointer (some ⟨b, off + k * 2, none⟩) := hk 2 17 (by kernel_rfl) rfl
              try with_reducible replace hw := New.undrawN hw
              try with_reducible replace hw := New.undraw hw
              obtain ⟨c, f'⟩ := hw.rules
              go_simp
              exact New.refl _
            · intro a w9 hw ho hk
              refine .inl ⟨by rfl, ?_⟩
              have t2 := ho 0 rfl
              dsimp at t2
              try with_reducible replace hw := New.undrawN hw
              try with_reducible replace hw := New.undraw hw
              obtain ⟨c, f'⟩ := hw.rules
              go_simp
              exact New.refl _
            · intro a w9 hw ho hk
              refine .inl ⟨by rfl, ?_⟩
              have t2 := ho 3 rfl
              dsimp at t2
              try with_reducible replace hw := New.undrawN hw
              try with_reducible replace hw := New.undraw hw
              obtain ⟨c, f'⟩ := hw.rules
              go_simp
              exact New.refl _
            · intro a w9 hw ho hk
              refine .inl ⟨by rfl, ?_⟩
              have t20 : a.tmps[20]?.getD undef = .int .i64 (k : Int) := hk 5 20 (by kernel_rfl) rfl
              go_simp
              exact New.refl _
            · intro a w9 hw ho hk
              refine .inl ⟨by rfl, ?_⟩
              have t19 : a.tmps[19]?.getD undef = .slice (some ⟨b, off, none⟩) xs.length cap := hk 4 19 (by kernel_rfl) rfl
              have t21 : a.tmps[21]?.getD undef = .int .i64 ((k : Int) + 1) := hk 6 21 (by kernel_rfl) rfl
              go_simp
              exact New.refl _
            · intro a w9 hw ho hk
              refine .inl ⟨by rfl, ?_⟩
              have t22 : a.tmps[22]?.getD undef = .pointer (some ⟨b, off + (k + 1) * 2, none⟩) := hk 7 22 (by kernel_rfl) rfl
              try with_reducible replace hw := New.undrawN hw
              try with_reducible replace hw := New.undraw hw
              obtain ⟨c, f'⟩ := hw.rules
              go_simp
              exact New.refl _
            · intro a w9 hw ho hk
              refine .inl ⟨by rfl, ?_⟩
              have t18 : a.tmps[18]?.getD undef = .agg #[.int .i64 x.op, .int .i64 x.arg] := hk 3 18 (by kernel_rfl) rfl
              have t23 : a.tmps[23]?.getD undef = .agg #[.int .i64 y.op, .int .i64 y.arg] := hk 8 23 (by kernel_rfl) rfl
              go_simp
              refine (HN.out _).mono ?_; rintro e w2 ⟨v, rfl, hb, r⟩
              first | exact ⟨hb, _, rfl, _, rfl, r⟩ | exact ⟨hb, _, by simp, r⟩
            · intro a w9 hw ho hk
              refine .inl ⟨by rfl, ?_⟩
              obtain ⟨v24, t24, r24⟩ : ∃ v, (a.tmps[24]?.getD undef) = .tuple #[v, .bool true] ∧ RplZ w9 v zs := hk 9 24 (by kernel_rfl) rfl
              go_simp
              first | exact ⟨New.refl _, _, rfl, v24, rfl, r24⟩ | exact ⟨New.refl _, v24, by simp, r24⟩
            · intro a w9 hw ho hk
              refine .inl ⟨by rfl, ?_⟩
              obtain ⟨v14, t14, r14⟩ : ∃ v, (a.tmps[14]?.getD undef) = .tuple #[v, .bool true] ∧ RplZ w9 v zs := hk 10 14 (by kernel_rfl) rfl
              go_simp
              first | exact ⟨New.refl _, _, rfl, r14⟩ | exact ⟨New.refl _, r14⟩
            · intro a w9 hw ho hk
              refine .inl ⟨by rfl, ?_⟩
              obtain ⟨v14, t14, r14⟩ : ∃ v, (a.tmps[14]?.getD undef) = .tuple #[v, .bool true] ∧ RplZ w9 v zs := hk 10 14 (by kernel_rfl) rfl
              go_simp
              exact New.refl _
            · intro a w9 hw ho hk
              refine .inl ⟨by rfl, ?_⟩
              obtain r25 : RplZ w9 (a.tmps[25]?.getD undef) zs := hk 11 25 (by kernel_rfl) rfl
              go_simp
              first | exact ⟨New.refl _, _, rfl, r25⟩ | exact ⟨New.refl _, r25⟩
            · intro a w9 hw ho hk
              refine .inl ⟨by rfl, ?_⟩
              have t26 : a.tmps[26]?.getD undef = .bool true := hk 12 26 (by kernel_rfl) rfl
              go_simp
              exact New.refl _
          intro w4 b4
          rintro _ rfl _ rfl _ rfl _ rfl _ rfl _ rfl _ rfl _ rfl _ rfl _ ⟨v24, rfl, r24⟩ _ ⟨v14, rfl, r14⟩ v25 r25 _ rfl vz rz _ rfl
          clear r24 r14 r25
          try with_reducible replace b4 := New.undrawN b4
          try with_reducible replace b4 := New.undraw b4
          obtain ⟨c4, f4⟩ := b4.rules
          have z4 := b4.size
          try simp only [World.size_alloc, World.size_drew, World.heap_drewN, World.size_setCell] at z4
          have z4_0 : b < w4.heap.size := by omega
          have N4 : New w w4 := hb.trans b4
          have RZ := Lib.hid (rplZ_rd rz)
          have hzl := rplZ_len rz
          clear rz
          have own0 : (w4.alloc (.cells #[] 94)).ownsRow w4.heap.size 94 2 (.slice (some ⟨w4.heap.size, 0, none⟩) 0 0) 0 [] := own_empty (Nat.le_refl _)
          have htl : (xs.take k).length = k := by simp; omega
          have hdl : (xs.drop (k + 2)).length = xs.length - (k + 2) := by simp
          have hk2 : (k : Int) + 2 ≤ xs.length := by omega
          have hk3 : ((k : Int) + 2).toNat = k + 2 := by omega
          have hk4 : (0 : Int) ≤ (k : Int) + 2 := by omega
          by_cases hce : cap = k + 2
          · subst hce
            have hdn : xs.drop (k + 2) = [] := List.drop_eq_nil_of_le (by omega)
            simp only [RG.EndAll, List.nil_append, List.cons_append, List.length_cons, List.length_nil, Nat.zero_add, Nat.reduceAdd, List.take_succ_cons, List.take_zero, List.drop_succ_cons, List.drop_zero, RG.putAll, Act.put, List.setIfInBounds_toArray, List.set_cons_succ, List.set_cons_zero]
            go_wp2_with (first | (at_builtin; refine wpList_append_rd rfl _ _ 57 rfl (w4.heap.size) 94 i0 (Value.agg #[.int .i64 0, .int .i64 0]) 2 16 Tryd.underlying57 hi hz0 hz1 hz2 rfl (by decide) _ _ _ rfl (own0) _ _ ((xs.take k).flatMap encInstruction) rfl (Rd.takeE encInstruction_len (by omega) (Rd.new HV.out (by repeat (first | with_reducible exact New.refl _ | with_reducible assumption | with_reducible refine New.drew ?_ | with_reducible refine New.drewN ?_ _ | with_reducible refine New.alloc ?_ _ | with_reducible refine New.setCell ?_ (by first | (simp; done) | (simp; omega) | omega) _ | with_reducible refine New.trans ?_ (by with_reducible assumption))))) (flat_length encInstruction 2 encInstruction_len _) (encI_one _) (by unfold maxLen; omega) (by omega) (by first | (simp; done) | (simp; omega) | omega) ?_; intro va wa howna hgra; have n41 : New w4 wa := New.grown ((New.refl w4).alloc _) hgra (fun q hq => (own_block_lt own0 q hq).1); have own1 := howna; have gz1 := n41.size; clear howna hgra) | (at_builtin; refine wpList_append_rd rfl _ _ 57 rfl (w4.heap.size) 94 i0 (Value.agg #[.int .i64 0, .int .i64 0]) 2 16 Tryd.underlying57 hi hz0 hz1 hz2 rfl (by decide) _ _ _ rfl (own1) _ _ ((zs).flatMap encInstruction) rfl (Rd.new RZ.out n41) (flat_length encInstruction 2 encInstruction_len _) (encI_one _) (by unfold maxLen; omega) (by omega) (by first | (simp; done) | (simp; omega) | omega) ?_; intro va wa howna hgra; have n42 : New w4 wa := New.grown n41 hgra (fun q hq => (own_block_lt own1 q hq).1); have own2 := howna; have gz2 := n42.size; clear howna hgra) | (at_builtin; refine wpList_append_rd rfl _ _ 57 rfl (w4.heap.size) 94 i0 (Value.agg #[.int .i64 0, .int .i64 0]) 2 16 Tryd.underlying57 hi hz0 hz1 hz2 rfl (by decide) _ _ _ rfl (own2) _ _ ((xs.drop (k + 2)).flatMap encInstruction) rfl ((by rw [hdn]; exact rdN_nil)) (flat_length encInstruction 2 encInstruction_len _) (encI_one _) (by unfold maxLen; omega) (by omega) (by first | (simp; done) | (simp; omega) | omega) ?_; intro va wa howna hgra; have n43 : New w4 wa := New.grown n42 hgra (fun q hq => (own_block_lt own2 q hq).1); have own3 := howna; have gz3 := n43.size; clear howna hgra))
            have own3' : wa.ownsRow w4.heap.size 94 2 va (xs.take k ++ zs ++ xs.drop (k + 2)).length ((xs.take k ++ zs ++ xs.drop (k + 2)).flatMap encInstruction) := own_eqI own3 (by simp only [List.length_append]; omega) (by simp only [List.flatMap_append, List.nil_append])
            refine (IH.out va _ wa hkn.out HRP.out (own_rd own3')).mono ?_
            rintro e w5 ⟨r, rfl, b5, o5⟩
            go_wp2_with fail
            go_ret
            exact ⟨r, rfl, (N4.trans n43).trans b5, by rw [HST.out]; exact own_base o5 (by have := N4.size; omega)⟩
          · skip
            simp only [RG.EndAll, List.nil_append, List.cons_append, List.length_cons, List.length_nil, Nat.zero_add, Nat.reduceAdd, List.take_succ_cons, List.take_zero, List.drop_succ_cons, List.drop_zero, RG.putAll, Act.put, List.setIfInBounds_toArray, List.set_cons_succ, List.set_cons_zero]
            go_wp2_with (first | (at_builtin; refine wpList_append_rd rfl _ _ 57 rfl (w4.heap.size) 94 i0 (Value.agg #[.int .i64 0, .int .i64 0]) 2 16 Tryd.underlying57 hi hz0 hz1 hz2 rfl (by decide) _ _ _ rfl (own0) _ _ ((xs.take k).flatMap encInstruction) rfl (Rd.takeE encInstruction_len (by omega) (Rd.new HV.out (by repeat (first | with_reducible exact New.refl _ | with_reducible assumption | with_reducible refine New.drew ?_ | with_reducible refine New.drewN ?_ _ | with_reducible refine New.alloc ?_ _ | with_reducible refine New.setCell ?_ (by first | (simp; done) | (simp; omega) | omega) _ | with_reducible refine New.trans ?_ (by with_reducible assumption))))) (flat_length encInstruction 2 encInstruction_len _) (encI_one _) (by unfold maxLen; omega) (by omega) (by first | (simp; done) | (simp; omega) | omega) ?_; intro va wa howna hgra; have n41 : New w4 wa := New.grown ((New.refl w4).alloc _) hgra (fun q hq => (own_block_lt own0 q hq).1); have own1 := howna; have gz1 := n41.size; clear howna hgra) | (at_builtin; refine wpList_append_rd rfl _ _ 57 rfl (w4.heap.size) 94 i0 (Value.agg #[.int .i64 0, .int .i64 0]) 2 16 Tryd.underlying57 hi hz0 hz1 hz2 rfl (by decide) _ _ _ rfl (own1) _ _ ((zs).flatMap encInstruction) rfl (Rd.new RZ.out n41) (flat_length encInstruction 2 encInstruction_len _) (encI_one _) (by unfold maxLen; omega) (by omega) (by first | (simp; done) | (simp; omega) | omega) ?_; intro va wa howna hgra; have n42 : New w4 wa := New.grown n41 hgra (fun q hq => (own_block_lt own1 q hq).1); have own2 := howna; have gz2 := n42.size; clear howna hgra) | (at_builtin; refine wpList_append_rd rfl _ _ 57 rfl (w4.heap.size) 94 i0 (Value.agg #[.int .i64 0, .int .i64 0]) 2 16 Tryd.underlying57 hi hz0 hz1 hz2 rfl (by decide) _ _ _ rfl (own2) _ _ ((xs.drop (k + 2)).flatMap encInstruction) rfl (rdN_drop (by omega) (Rd.new HV.out (N4.trans n42)) b off rfl _ (by omega)) (flat_length encInstruction 2 encInstruction_len _) (encI_one _) (by unfold maxLen; omega) (by omega) (by first | (simp; done) | (simp; omega) | omega) ?_; intro va wa howna hgra; have n43 : New w4 wa := New.grown n42 hgra (fun q hq => (own_block_lt own2 q hq).1); have own3 := howna; have gz3 := n43.size; clear howna hgra))
            have own3' : wa.ownsRow w4.heap.size 94 2 va (xs.take k ++ zs ++ xs.drop (k + 2)).length ((xs.take k ++ zs ++ xs.drop (k + 2)).flatMap encInstruction) := own_eqI own3 (by simp only [List.length_append]; omega) (by simp only [List.flatMap_append, List.nil_append])
            refine (IH.out va _ wa hkn.out HRP.out (own_rd own3')).mono ?_
            rintro e w5 ⟨r, rfl, b5, o5⟩
            go_wp2_with fail
            go_ret
            exact ⟨r, rfl, (N4.trans n43).trans b5, by rw [HST.out]; exact own_base o5 (by have := N4.size; omega)⟩
      · have hst := Lib.hid (impI_stop (pre_end (by omega) hpre.out))
        have own0 : (wr.alloc (.cells #[] 94)).ownsRow w.heap.size 94 2 (.slice (some ⟨wr.heap.size, 0, none⟩) 0 0) 0 [] := own_empty (by omega)
        go_wp2_with (first | (at_builtin; refine wpList_append_rd rfl _ _ 57 rfl (w.heap.size) 94 i0 (Value.agg #[.int .i64 0, .int .i64 0]) 2 16 Tryd.underlying57 hi hz0 hz1 hz2 rfl (by decide) _ _ _ rfl (own0) _ _ ((xs).flatMap encInstruction) rfl (Rd.new HV.out (by repeat (first | with_reducible exact New.refl _ | with_reducible assumption | with_reducible refine New.drew ?_ | with_reducible refine New.drewN ?_ _ | with_reducible refine New.alloc ?_ _ | with_reducible refine New.setCell ?_ (by first | (simp; done) | (simp; omega) | omega) _ | with_reducible refine New.trans ?_ (by with_reducible assumption)))) (flat_length encInstruction 2 encInstruction_len _) (encI_one _) (by unfold maxLen; omega) (by omega) (by first | (simp; done) | (simp; omega) | omega) ?_; intro va wa howna hgra))
        have ba := New.grown (show New w _ by exact (by repeat (first | with_reducible exact New.refl _ | with_reducible assumption | with_reducible refine New.drew ?_ | with_reducible refine New.drewN ?_ _ | with_reducible refine New.alloc ?_ _ | with_reducible refine New.setCell ?_ (by first | (simp; done) | (simp; omega) | omega) _ | with_reducible refine New.trans ?_ (by with_reducible assumption)))) hgra (fun q hq => by have := (own_block_lt own0 q hq).1; simpa using this)
        go_ret
        exact ⟨_, rfl, ba, by rw [hst.out]; simpa using howna⟩
theorem new_grown {w w' : World} (h : New w w') (r : Option Nat) : w.grownBy w' r := ⟨h.os, h.tape, h.output, h.size, fun q hq _ => h.block q hq⟩
theorem grown_trans2 {a b c : World} {r : Option Nat} (h : a.grownBy b r) (k : b.grownBy c r) : a.grownBy c r :=
  ⟨k.os.trans h.os, k.tape.trans h.tape, k.output.trans h.output, Nat.le_trans h.size k.size, fun q hq hne => (k.block q (Nat.lt_of_lt_of_le hq h.size) hne).trans (h.block q hq hne)⟩
/-- One step of the improving, in place. -/
def RetOnce (base : Nat) (v : Value) (xs : List EInstruction) (w : World) (e : Ending) (w' : World) : Prop :=
  ∃ v' ys, e = .returned (.tuple #[v', .bool (onceI xs).isSome]) ∧ w.grownBy w' v.ownBlock ∧ w'.ownsRow base 94 2 v' ys.length (ys.flatMap encInstruction) ∧ v'.ownBlock = v.ownBlock ∧ ys = (onceI xs).getD xs
set_option maxHeartbeats 2000000 in
theorem iOnce_any (base : Nat) (v : Value) (xs : List EInstruction) (w : World) (hxl : xs.length ≤ 2000) (ha : okArgs xs) (hv : w.ownsRow base 94 2 v xs.length (xs.flatMap encInstruction)) (hbw : base ≤ w.heap.size) :
    Calls Tryd.prog 74 #[v] w (RetOnce base v xs w) := by
  have HA := Lib.hid ha; clear ha
  have HO := Lib.hid hv
  obtain ⟨a, cap, rfl, hm, HC⟩ := Rd.flat encInstruction_len (by omega) (own_rd hv)
  have hob : ∀ b off, a = some ⟨b, off, none⟩ → off = 0 ∧ base ≤ b := fun b off e => by
    subst e
    rcases hv.2 with ⟨h, _⟩ | ⟨g, c, cur, h, h1, _⟩
    · cases h
    · cases h; exact ⟨rfl, h1⟩
  replace hob := Lib.hid hob
  clear hv
  go_enter Tryd.func74, Tryd.ntmps74
  go_wp2_with fail
  go_loopw [4] (fun i wr => ∃ k : Nat, k ≤ xs.length ∧ i = .int .i64 k ∧ Hid (PreI xs k) ∧ New w wr) (fun i _ => xs.length - (intOf i).toNat)
  case atStart => exact ⟨0, Nat.zero_le _, rfl, Lib.hid (pre_zero xs), (by repeat (first | with_reducible exact New.refl _ | with_reducible assumption | with_reducible refine New.drew ?_ | with_reducible refine New.drewN ?_ _ | with_reducible refine New.alloc ?_ _ | with_reducible refine New.setCell ?_ (by first | (simp; done) | (simp; omega) | omega) _ | with_reducible refine New.trans ?_ (by with_reducible assumption)))⟩
  case round =>
    obtain ⟨k, hk, rfl, hpre, hb⟩ := hrel
    obtain ⟨cc, f'⟩ := hb.rules
    have hbz := hb.size
    by_cases hlt : k + 1 < xs.length
    · have hlt0 : k < xs.length := by omega
      obtain ⟨b, off, rfl, hbl, hx⟩ := HC.out k hlt0
      obtain ⟨b', off', hae, hbl', hy⟩ := HC.out (k + 1) hlt
      obtain ⟨rfl, rfl⟩ : b = b' ∧ off = off' := by cases hae; exact ⟨rfl, rfl⟩
      have x0 := hx 0 _ (by omega) rfl
      have x1 := hx 1 _ (by omega) rfl
      have y0 := hy 0 _ (by omega) rfl
      have y1 := hy 1 _ (by omega) rfl
      rw [Nat.add_zero] at x0 y0
      have hbr : b < wr.heap.size := by omega
      clear hx hy hae
      have HB := Lib.hid (fun (w0 : World) => iBetter_any xs[k] xs[k + 1] w0 (HA.out _ (List.getElem_mem hlt0)))
      have HP1 := Lib.hid (fun (zs : List EInstruction) (h : betterI xs[k] xs[k + 1] = some zs) => pre_at hlt h hpre.out)
      have HP2 := Lib.hid (fun (h : betterI xs[k] xs[k + 1] = none) => pre_next hlt h hpre.out)
      generalize xs[k] = x at x0 x1 HB HP1 HP2
      generalize xs[k + 1] = y at y0 y1 HB HP1 HP2
      have hwk : IntKind.i64.wrap ((k : Int) + 1) = (k : Int) + 1 := IntWalk.i64_in _ (by omega)
      have hkt : ((k : Int) + 1).toNat = k + 1 := by omega
      have hk0 : (0 : Int) ≤ (k : Int) + 1 := by omega
      have hk1 : (k : Int) + 1 < xs.length := by omega
      cases hB : betterI x y with
      | none =>
        have HN := Lib.hid (fun w0 => bet_no hB (HB.out w0))
        have HPN := Lib.hid (HP2.out hB)
        clear HB HP1 HP2 hB
        go_wp2_with fail
        refine RG.wp_facts [fun X _ => X = .slice (some ⟨b, off, none⟩) xs.length cap, fun X _ => X = .int .i64 (k : Int), fun X _ => X = .pointer (some ⟨b, off + k * 2, none⟩), fun X _ => X = .agg #[.int .i64 x.op, .int .i64 x.arg], fun X _ => X = .slice (some ⟨b, off, none⟩) xs.length cap, fun X _ => X = .int .i64 (k : Int), fun X _ => X = .int .i64 ((k : Int) + 1), fun X _ => X = .pointer (some ⟨b, off + (k + 1) * 2, none⟩), fun X _ => X = .agg #[.int .i64 y.op, .int .i64 y.arg], fun X _ => X = .tuple #[.slice none 0 0, .bool false], fun X _ => X = .tuple #[.slice none 0 0, .bool false], fun X _ => X = .slice none 0 0, fun X _ => X = .bool false, fun X _ => X = .slice none 0 0, fun X _ => X = .bool false] (by kernel_rfl) (by kernel_rfl) ⟨RG.stable_eq _, RG.stable_eq _, RG.stable_eq _, RG.stable_eq _, RG.stable_eq _, RG.stable_eq _, RG.stable_eq _, RG.stable_eq _, RG.stable_eq _, RG.stable_eq _, RG.stable_eq _, RG.stable_eq _, RG.stable_eq _, RG.stable_eq _, RG.stable_eq _, trivial⟩ ?_ ?_
        · refine ⟨?_, ?_, ?_, ?_, ?_, ?_, ?_, ?_, ?_, ?_, ?_, ?_, ?_, ?_, ?_, trivial⟩
          · intro a w9 hw ho hk
            refine .inl ⟨by rfl, ?_⟩
            have t2 := ho 0 rfl
            dsimp at t2
            try with_reducible replace hw := New.undrawN hw
            try with_reducible replace hw := New.undraw hw
            obtain ⟨c, f'⟩ := hw.rules
            go_simp
            exact New.refl _
          · intro a w9 hw ho hk
            refine .inl ⟨by rfl, ?_⟩
            have t2 := ho 4 rfl
            dsimp at t2
            try with_reducible replace hw := New.undrawN hw
            try with_reducible replace hw := New.undraw hw
            obtain ⟨c, f'⟩ := hw.rules
            go_simp
            exact New.refl _
          · intro a w9 hw ho hk
            refine .inl ⟨by rfl, ?_⟩
            have t15 : a.tmps[15]?.getD undef = .slice (some ⟨b, off, none⟩) xs.length cap := hk 0 15 (by kernel_rfl) rfl
            have t16 : a.tmps[16]?.getD undef = .int .i64 (k : Int) := hk 1 16 (by kernel_rfl) rfl
            go_simp
            exact New.refl _
          · intro a w9 hw ho hk
            refine .inl ⟨by rfl, ?_⟩
            have t17 : a.tmps[17]?.getD undef = .pointer (some ⟨b, off + k * 2, none⟩) := hk 2 17 (by kernel_rfl) rfl
            try with_reducible replace hw := New.undrawN hw
            try with_reducible replace hw := New.undraw hw
            obtain ⟨c, f'⟩ := hw.rules
            go_simp
            exact New.refl _
          · intro a w9 hw ho hk
            refine .inl ⟨by rfl, ?_⟩
            have t2 := ho 0 rfl
            dsimp at t2
            try with_reducible replace hw := New.undrawN hw
            try with_reducible replace hw := New.undraw hw
            obtain ⟨c, f'⟩ := hw.rules
            go_simp
            exact New.refl _
          · intro a w9 hw ho hk
            refine .inl ⟨by rfl, ?_⟩
            have t2 := ho 4 rfl
            dsimp at t2
            try with_reducible replace hw := New.undrawN hw
            try with_reducible replace hw := New.undraw hw
            obtain ⟨c, f'⟩ := hw.rules
            go_simp
            exact New.refl _
          · intro a w9 hw ho hk
            refine .inl ⟨by rfl, ?_⟩
            have t20 : a.tmps[20]?.getD undef = .int .i64 (k : Int) := hk 5 20 (by kernel_rfl) rfl
            go_simp
            exact New.refl _
          · intro a w9 hw ho hk
            refine .inl ⟨by rfl, ?_⟩
            have t19 : a.tmps[19]?.getD undef = .slice (some ⟨b, off, none⟩) xs.length cap := hk 4 19 (by kernel_rfl) rfl
            have t21 : a.tmps[21]?.getD undef = .int .i64 ((k : Int) + 1) := hk 6 21 (by kernel_rfl) rfl
            go_simp
            exact New.refl _
          · intro a w9 hw ho hk
            refine .inl ⟨by rfl, ?_⟩
            have t22 : a.tmps[22]?.getD undef = .pointer (some ⟨b, off + (k + 1) * 2, none⟩) := hk 7 22 (by kernel_rfl) rfl
            try with_reducible replace hw := New.undrawN hw
            try with_reducible replace hw := New.undraw hw
            obtain ⟨c, f'⟩ := hw.rules
            go_simp
            exact New.refl _
          · intro a w9 hw ho hk
            refine .inl ⟨by rfl, ?_⟩
            have t18 : a.tmps[18]?.getD undef = .agg #[.int .i64 x.op, .int .i64 x.arg] := hk 3 18 (by kernel_rfl) rfl
            have t23 : a.tmps[23]?.getD undef = .agg #[.int .i64 y.op, .int .i64 y.arg] := hk 8 23 (by kernel_rfl) rfl
            go_simp
            refine (HN.out _).mono ?_; rintro e w2 ⟨rfl, hb⟩
            first | exact ⟨hb, _, rfl, by simp⟩ | exact ⟨hb, by simp⟩
          · intro a w9 hw ho hk
            refine .inl ⟨by rfl, ?_⟩
            have t24 : a.tmps[24]?.getD undef = .tuple #[.slice none 0 0, .bool false] := hk 9 24 (by kernel_rfl) rfl
            go_simp
            exact New.refl _
          · intro a w9 hw ho hk
            refine .inl ⟨by rfl, ?_⟩
            have t14 : a.tmps[14]?.getD undef = .tuple #[.slice none 0 0, .bool false] := hk 10 14 (by kernel_rfl) rfl
            go_simp
            exact New.refl _
          · intro a w9 hw ho hk
            refine .inl ⟨by rfl, ?_⟩
            have t14 : a.tmps[14]?.getD undef = .tuple #[.slice none 0 0, .bool false] := hk 10 14 (by kernel_rfl) rfl
            go_simp
            exact New.refl _
          · intro a w9 hw ho hk
            refine .inl ⟨by rfl, ?_⟩
            have t25 : a.tmps[25]?.getD undef = .slice none 0 0 := hk 11 25 (by kernel_rfl) rfl
            go_simp
            exact New.refl _
          · intro a w9 hw ho hk
            refine .inl ⟨by rfl, ?_⟩
            have t26 : a.tmps[26]?.getD undef = .bool false := hk 12 26 (by kernel_rfl) rfl
            go_simp
            exact New.refl _
        intro w4 b4
        rintro _ rfl _ rfl _ rfl _ rfl _ rfl _ rfl _ rfl _ rfl _ rfl _ rfl _ rfl _ rfl _ rfl _ rfl _ rfl
        try with_reducible replace b4 := New.undrawN b4
        try with_reducible replace b4 := New.undraw b4
        obtain ⟨c4, f4⟩ := b4.rules
        have z4 := b4.size
        try simp only [World.size_alloc, World.size_drew, World.heap_drewN, World.size_setCell] at z4
        have z4_0 : b < w4.heap.size := by omega
        simp only [RG.EndAll, List.nil_append, List.cons_append, List.length_cons, List.length_nil, Nat.zero_add, Nat.reduceAdd, List.take_succ_cons, List.take_zero, List.drop_succ_cons, List.drop_zero, RG.putAll, Act.put, List.setIfInBounds_toArray, List.set_cons_succ, List.set_cons_zero]
        go_wp2_with fail
        go_roundw
        case rel => exact ⟨k + 1, by omega, by go_num, HPN, (by repeat (first | with_reducible exact New.refl _ | with_reducible assumption | with_reducible refine New.drew ?_ | with_reducible refine New.drewN ?_ _ | with_reducible refine New.alloc ?_ _ | with_reducible refine New.setCell ?_ (by first | (simp; done) | (simp; omega) | omega) _ | with_reducible refine New.trans ?_ (by with_reducible assumption)))⟩
        case measure => simp [intOf]; omega
      | some zs =>
        have HN := Lib.hid (fun w0 => bet_some hB (HB.out w0))
        have HPS := Lib.hid (HP1.out zs hB)
        clear HB HP1 HP2 hB
        have hofb := Lib.hid (hob.out b off rfl)
        go_wp2_with fail
        refine RG.wp_facts [fun X _ => X = .slice (some ⟨b, off, none⟩) xs.length cap, fun X _ => X = .int .i64 (k : Int), fun X _ => X = .pointer (some ⟨b, off + k * 2, none⟩), fun X _ => X = .agg #[.int .i64 x.op, .int .i64 x.arg], fun X _ => X = .slice (some ⟨b, off, none⟩) xs.length cap, fun X _ => X = .int .i64 (k : Int), fun X _ => X = .int .i64 ((k : Int) + 1), fun X _ => X = .pointer (some ⟨b, off + (k + 1) * 2, none⟩), fun X _ => X = .agg #[.int .i64 y.op, .int .i64 y.arg], fun X W' => ∃ v, X = .tuple #[v, .bool true] ∧ RplZ W' v zs, fun X W' => ∃ v, X = .tuple #[v, .bool true] ∧ RplZ W' v zs, fun X W' => RplZ W' X zs, fun X _ => X = .bool true, fun X W' => RplZ W' X zs, fun X _ => X = .bool true] (by kernel_rfl) (by kernel_rfl) ⟨RG.stable_eq _, RG.stable_eq _, RG.stable_eq _, RG.stable_eq _, RG.stable_eq _, RG.stable_eq _, RG.stable_eq _, RG.stable_eq _, RG.stable_eq _, fun X w0 w1 hn ⟨v24, t24, r24⟩ => ⟨v24, t24, rplZ_new r24 hn⟩, fun X w0 w1 hn ⟨v14, t14, r14⟩ => ⟨v14, t14, rplZ_new r14 hn⟩, fun X w0 w1 hn r25 => rplZ_new r25 hn, RG.stable_eq _, fun X w0 w1 hn r5 => rplZ_new r5 hn, RG.stable_eq _, trivial⟩ ?_ ?_
        · refine ⟨?_, ?_, ?_, ?_, ?_, ?_, ?_, ?_, ?_, ?_, ?_, ?_, ?_, ?_, ?_, trivial⟩
          · intro a w9 hw ho hk
            refine .inl ⟨by rfl, ?_⟩
            have t2 := ho 0 rfl
            dsimp at t2
            try with_reducible replace hw := New.undrawN hw
            try with_reducible replace hw := New.undraw hw
            obtain ⟨c, f'⟩ := hw.rules
            go_simp
            exact New.refl _
          · intro a w9 hw ho hk
            refine .inl ⟨by rfl, ?_⟩
            have t2 := ho 4 rfl
            dsimp at t2
            try with_reducible replace hw := New.undrawN hw
            try with_reducible replace hw := New.undraw hw
            obtain ⟨c, f'⟩ := hw.rules
            go_simp
            exact New.refl _
          · intro a w9 hw ho hk
            refine .inl ⟨by rfl, ?_⟩
            have t15 : a.tmps[15]?.getD undef = .slice (some ⟨b, off, none⟩) xs.length cap := hk 0 15 (by kernel_rfl) rfl
            have t16 : a.tmps[16]?.getD undef = .int .i64 (k : Int) := hk 1 16 (by kernel_rfl) rfl
            go_simp
            exact New.refl _
          · intro a w9 hw ho hk
            refine .inl ⟨by rfl, ?_⟩
            have t17 : a.tmps[17]?.getD undef = .pointer (some ⟨b, off + k * 2, none⟩) := hk 2 17 (by kernel_rfl) rfl
            try with_reducible replace hw := New.undrawN hw
            try with_reducible replace hw := New.undraw hw
            obtain ⟨c, f'⟩ := hw.rules
            go_simp
            exact New.refl _
          · intro a w9 hw ho hk
            refine .inl ⟨by rfl, ?_⟩
            have t2 := ho 0 rfl
            dsimp at t2
            try with_reducible replace hw := New.undrawN hw
            try with_reducible replace hw := New.undraw hw
            obtain ⟨c, f'⟩ := hw.rules
            go_simp
            exact New.refl _
          · intro a w9 hw ho hk
            refine .inl ⟨by rfl, ?_⟩
            have t2 := ho 4 rfl
            dsimp at t2
            try with_reducible replace hw := New.undrawN hw
            try with_reducible replace hw := New.undraw hw
            obtain ⟨c, f'⟩ := hw.rules
            go_simp
            exact New.refl _
          · intro a w9 hw ho hk
            refine .inl ⟨by rfl, ?_⟩
            have t20 : a.tmps[20]?.getD undef = .int .i64 (k : Int) := hk 5 20 (by kernel_rfl) rfl
            go_simp
            exact New.refl _
          · intro a w9 hw ho hk
            refine .inl ⟨by rfl, ?_⟩
            have t19 : a.tmps[19]?.getD undef = .slice (some ⟨b, off, none⟩) xs.length cap := hk 4 19 (by kernel_rfl) rfl
            have t21 : a.tmps[21]?.getD undef = .int .i64 ((k : Int) + 1) := hk 6 21 (by kernel_rfl) rfl
            go_simp
            exact New.refl _
          · intro a w9 hw ho hk
            refine .inl ⟨by rfl, ?_⟩
            have t22 : a.tmps[22]?.getD undef = .pointer (some ⟨b, off + (k + 1) * 2, none⟩) := hk 7 22 (by kernel_rfl) rfl
            try with_reducible replace hw := New.undrawN hw
            try with_reducible replace hw := New.undraw hw
            obtain ⟨c, f'⟩ := hw.rules
            go_simp
            exact New.refl _
          · intro a w9 hw ho hk
            refine .inl ⟨by rfl, ?_⟩
            have t18 : a.tmps[18]?.getD undef = .agg #[.int .i64 x.op, .int .i64 x.arg] := hk 3 18 (by kernel_rfl) rfl
            have t23 : a.tmps[23]?.getD undef = .agg #[.int .i64 y.op, .int .i64 y.arg] := hk 8 23 (by kernel_rfl) rfl
            go_simp
            refine (HN.out _).mono ?_; rintro e w2 ⟨v, rfl, hb, r⟩
            first | exact ⟨hb, _, rfl, _, rfl, r⟩ | exact ⟨hb, _, by simp, r⟩
          · intro a w9 hw ho hk
            refine .inl ⟨by rfl, ?_⟩
            obtain ⟨v24, t24, r24⟩ : ∃ v, (a.tmps[24]?.getD undef) = .tuple #[v, .bool true] ∧ RplZ w9 v zs := hk 9 24 (by kernel_rfl) rfl
            go_simp
            first | exact ⟨New.refl _, _, rfl, v24, rfl, r24⟩ | exact ⟨New.refl _, v24, by simp, r24⟩
          · intro a w9 hw ho hk
            refine .inl ⟨by rfl, ?_⟩
            obtain ⟨v14, t14, r14⟩ : ∃ v, (a.tmps[14]?.getD undef) = .tuple #[v, .bool true] ∧ RplZ w9 v zs := hk 10 14 (by kernel_rfl) rfl
            go_simp
            first | exact ⟨New.refl _, _, rfl, r14⟩ | exact ⟨New.refl _, r14⟩
          · intro a w9 hw ho hk
            refine .inl ⟨by rfl, ?_⟩
            obtain ⟨v14, t14, r14⟩ : ∃ v, (a.tmps[14]?.getD undef) = .tuple #[v, .bool true] ∧ RplZ w9 v zs := hk 10 14 (by kernel_rfl) rfl
            go_simp
            exact New.refl _
          · intro a w9 hw ho hk
            refine .inl ⟨by rfl, ?_⟩
            obtain r25 : RplZ w9 (a.tmps[25]?.getD undef) zs := hk 11 25 (by kernel_rfl) rfl
            go_simp
            first | exact ⟨New.refl _, _, rfl, r25⟩ | exact ⟨New.refl _, r25⟩
          · intro a w9 hw ho hk
            refine .inl ⟨by rfl, ?_⟩
            have t26 : a.tmps[26]?.getD undef = .bool true := hk 12 26 (by kernel_rfl) rfl
            go_simp
            exact New.refl _
        intro w4 b4
        rintro _ rfl _ rfl _ rfl _ rfl _ rfl _ rfl _ rfl _ rfl _ rfl _ ⟨v24, rfl, r24⟩ _ ⟨v14, rfl, r14⟩ v25 r25 _ rfl vz rz _ rfl
        clear r24 r14 r25
        try with_reducible replace b4 := New.undrawN b4
        try with_reducible replace b4 := New.undraw b4
        obtain ⟨c4, f4⟩ := b4.rules
        have z4 := b4.size
        try simp only [World.size_alloc, World.size_drew, World.heap_drewN, World.size_setCell] at z4
        have z4_0 : b < w4.heap.size := by omega
        have N4 : New w w4 := hb.trans b4
        obtain ⟨rfl, hbb⟩ := hofb.out
        simp only [RG.EndAll, List.nil_append, List.cons_append, List.length_cons, List.length_nil, Nat.zero_add, Nat.reduceAdd, List.take_succ_cons, List.take_zero, List.drop_succ_cons, List.drop_zero, RG.putAll, Act.put, List.setIfInBounds_toArray, List.set_cons_succ, List.set_cons_zero]
        go_wp2_with fail
        refine (replace_any b cap base k xs zs _ _ hlt (by omega) (own_new HO.out N4) (by first | exact rz | exact rplZ_new rz (by repeat (first | with_reducible exact New.refl _ | with_reducible assumption | with_reducible refine New.drew ?_ | with_reducible refine New.drewN ?_ _ | with_reducible refine New.alloc ?_ _ | with_reducible refine New.setCell ?_ (by first | (simp; done) | (simp; omega) | omega) _ | with_reducible refine New.trans ?_ (by with_reducible assumption))))).mono ?_
        rintro e w5 ⟨rfl, g5, o5⟩
        go_wp2_with fail
        go_ret2
        exact ⟨_, replI xs zs k, by rw [HPS.out]; rfl, grown_trans2 (new_grown N4 _) g5, o5, rfl, by rw [HPS.out]; rfl⟩
    · have hst := Lib.hid (pre_end (by omega) hpre.out)
      go_wp2_with fail
      go_ret2
      exact ⟨_, xs, by rw [hst.out]; rfl, new_grown hb _, own_new HO.out hb, rfl, by rw [hst.out]; rfl⟩
end Go.Proofs.YteielmihlfakgaaDoor
