/- InstrS, Codes, Codes2, Codes3, CodeS, CodeM, CodeH: several texts in one. -/
import Derived.Test.YtadoocadohdfcaaGreatDoorProg
import Derived.Test.YtadoocadohdfcaaGreatDoorInts
import Derived.Test.YtadoocadohdfcaaGreatDoorTermS
import Derived.Test.YtadoocadohdfcaaGreatDoorHeights
import Derived.Test.YtadoocadohdfcaaGreatDoorTermFn
import Derived.Test.YtadoocadohdfcaaGreatDoorRets
import Derived.Test.YtadoocadohdfcaaGreatDoorMrgB
namespace Go.Proofs.YtadoocadohdfcaaGreatDoor
open Go Go.Proofs Go.RowKit
set_option linter.unusedVariables false
set_option linter.unusedSimpArgs false
set_option maxRecDepth 100000
structure EInstruction where (op : Int) (arg : Int)
  deriving DecidableEq
def encInstruction (x : EInstruction) : List Value := [.int .i64 x.op, .int .i64 x.arg]
theorem encInstruction_len (x : EInstruction) : (encInstruction x).length = 2 := rfl
def valInstruction (x : EInstruction) : Value := .agg #[.int .i64 x.op, .int .i64 x.arg]
def mkInstruction (k : Nat) (j : Nat) : EInstruction := ⟨((k + j * 2 : Nat) : Int), ((k + j * 2 + 1 : Nat) : Int)⟩
theorem infoInstruction : (Tryz.prog.info? 65).map (fun i => (i.zero, i.size, i.bytes)) = some (some (Value.agg #[Value.int .i64 0, Value.int .i64 0]), 2, 16) := by kernel_rfl
theorem eqInstruction_any (x y : EInstruction) (w : World) : Calls Tryz.prog 44 #[.agg #[.int .i64 x.op, .int .i64 x.arg], .agg #[.int .i64 y.op, .int .i64 y.arg]] w fun e w' => e = .returned (.bool (decide (x = y))) ∧ New w w' := by
  obtain ⟨op, arg⟩ := x
  obtain ⟨op', arg'⟩ := y
  dsimp only
  go_enter Tryz.func44, Tryz.ntmps44
  go_wp2_with fail
  all_goals (go_ret; exact ⟨ret_bool (by simp_all), (by repeat (first | with_reducible exact New.refl _ | with_reducible assumption | with_reducible refine New.drew ?_ | with_reducible refine New.drewN ?_ _ | with_reducible refine New.alloc ?_ _ | with_reducible refine New.setCell ?_ (by first | (simp; done) | (simp; omega) | omega) _ | with_reducible refine New.trans ?_ (by with_reducible assumption)))⟩)
set_option maxHeartbeats 800000 in
theorem eqInstructionS_any (v u : Value) (xs ys : List EInstruction) (w : World) (hv : Rd w v xs.length (xs.flatMap encInstruction)) (hu : Rd w u ys.length (ys.flatMap encInstruction)) :
    Calls Tryz.prog 22 #[v, u] w fun e w' => e = .returned (.bool (decide (xs = ys))) ∧ New w w' := by
  obtain ⟨a, cap, rfl, hn, HC⟩ := Rd.flat encInstruction_len (by omega) hv
  obtain ⟨a', cap', rfl, hn', HC'⟩ := Rd.flat encInstruction_len (by omega) hu
  clear hv hu
  by_cases hlen : xs.length = ys.length
  · have hne : ((xs.length : Int) != ys.length) = false := by simp [hlen]
    have HL : Hid (xs.length = ys.length) := hlen
    have hle : xs.length ≤ ys.length := by omega
    have hge : ys.length ≤ xs.length := by omega
    clear hlen
    go_enter Tryz.func22, Tryz.ntmps22
    go_wp2_with fail
    go_loopw [5] (fun i wr => ∃ k : Nat, k ≤ xs.length ∧ i = .int .i64 k ∧ Hid (xs.take k = ys.take k) ∧ New w wr) (fun i _ => xs.length - (intOf i).toNat)
    case atStart => exact ⟨0, Nat.zero_le _, rfl, rfl, New.refl w⟩
    case round =>
      obtain ⟨k, hk, rfl, hpre, hb⟩ := hrel
      obtain ⟨c, f⟩ := hb.rules
      have hsz := hb.size
      by_cases hlt : k < xs.length
      · have hlt' : k < ys.length := by omega
        obtain ⟨b, off, rfl, hbl, hx⟩ := HC.out k hlt
        obtain ⟨b', off', rfl, hbl', hy⟩ := HC'.out k hlt'
        have hbw : b < wr.heap.size := by omega
        have hbw' : b' < wr.heap.size := by omega
        have x0 := hx 0 _ (by omega) rfl
        have x1 := hx 1 _ (by omega) rfl
        rw [Nat.add_zero] at x0
        have y0 := hy 0 _ (by omega) rfl
        have y1 := hy 1 _ (by omega) rfl
        rw [Nat.add_zero] at y0
        replace hx := Lib.hid hx
        replace hy := Lib.hid hy
        go_wp2_with fail
        have hq := fun (n : NewOf wr) b o => NewOf.cell n b o
        refine wp_region_new (by kernel_rfl) (by kernel_rfl) ?_
        repeat (first | go_big_quiet_skip | go_big_quiet_step ((first | exact newq (eqInstruction_any xs[k] ys[k] _))) | quiet_step ((first | exact newq (eqInstruction_any xs[k] ys[k] _))))
        refine wpQuiet_nil ?_
        rintro ⟨w3, b3⟩
        dsimp only
        try with_reducible replace b3 := New.undrawN b3
        try with_reducible replace b3 := New.undraw b3
        obtain ⟨c3, f3⟩ := b3.rules
        have z3 := b3.size
        try simp only [World.size_alloc, World.size_drew, World.heap_drewN, World.size_setCell] at z3
        go_wp2_with fail
        · go_ret
          have hh : (!decide (xs[k] = ys[k])) = true := by assumption
          refine ⟨ret_bool (Eq.symm (decide_eq_false ?_)), (by repeat (first | with_reducible exact New.refl _ | with_reducible assumption | with_reducible refine New.drew ?_ | with_reducible refine New.drewN ?_ _ | with_reducible refine New.alloc ?_ _ | with_reducible refine New.setCell ?_ (by first | (simp; done) | (simp; omega) | omega) _ | with_reducible refine New.trans ?_ (by with_reducible assumption)))⟩
          rintro rfl
          simp at hh
        · have hh : (!decide (xs[k] = ys[k])) = false := by assumption
          replace hh : xs[k] = ys[k] := by simpa using hh
          replace hh := Lib.hid hh
          go_roundw
          case rel => exact ⟨k + 1, by omega, by go_num, Lib.hid (by rw [List.take_succ_eq_append_getElem hlt, List.take_succ_eq_append_getElem hlt', hpre.out, hh.out]), (by repeat (first | with_reducible exact New.refl _ | with_reducible assumption | with_reducible refine New.drew ?_ | with_reducible refine New.drewN ?_ _ | with_reducible refine New.alloc ?_ _ | with_reducible refine New.setCell ?_ (by first | (simp; done) | (simp; omega) | omega) _ | with_reducible refine New.trans ?_ (by with_reducible assumption)))⟩
          case measure => simp [intOf]; omega
      · have hkx : k = xs.length := by omega
        have hky : k = ys.length := by omega
        have he : xs = ys := by
          have := hpre.out
          rwa [List.take_of_length_le (by omega), List.take_of_length_le (by omega)] at this
        have HE := Lib.hid he
        clear hkx hky he
        go_wp2_with fail
        go_ret
        exact ⟨ret_bool (decide_eq_true HE.out).symm, hb⟩
  · have hne : ((xs.length : Int) != ys.length) = true := by simp; omega
    go_enter Tryz.func22, Tryz.ntmps22
    go_wp2_with fail
    go_ret
    exact ⟨ret_bool (decide_eq_false (fun h => hlen (by rw [h]))).symm, New.refl w⟩
set_option maxHeartbeats 1600000 in
theorem markInstructionS_any (v : Value) (xs : List EInstruction) (base k : Nat) (w : World) (hv : w.ownsRow base 65 2 v xs.length (xs.flatMap encInstruction)) (hn : xs.length ≤ 1048576) (hk : k ≤ 1048576000) :
    Calls Tryz.prog 28 #[v, .int .i64 k] w (MarkedE encInstruction 2 (mkInstruction k) v base xs.length (k + xs.length * 2) 65 w) := by
  by_cases h0 : xs.length = 0
  · have hx : xs = [] := List.eq_nil_of_length_eq_zero h0
    subst hx
    obtain ⟨a, cap, hve⟩ := own_slice hv
    subst hve
    go_enter Tryz.func28, Tryz.ntmps28
    go_wp2_with fail
    refine wp_loop_rounds 1 ?_
    rw [rounds_succ]
    go_wp2_with fail
    go_ret
    exact ⟨rfl, Only.refl _ _, hv⟩
  · obtain ⟨g, cap, rfl⟩ : ∃ g cap, v = .slice (some ⟨g, 0, none⟩) xs.length cap := by
      rcases hv.2 with ⟨_, h⟩ | ⟨g, cap, cur, h, _⟩
      · exact absurd h h0
      · exact ⟨g, cap, h⟩
    clear h0
    go_enter Tryz.func28, Tryz.ntmps28
    go_wp2_with fail
    go_loopw [1, 5] (fun kk i wr => ∃ j : Nat, j ≤ xs.length ∧ i = .int .i64 j ∧ kk = .int .i64 ((k + j * 2 : Nat) : Int) ∧ Only (.slice (some ⟨g, 0, none⟩) xs.length cap) w wr ∧ wr.ownsRow base 65 2 (.slice (some ⟨g, 0, none⟩) xs.length cap) xs.length ((marksE (mkInstruction k) j ++ xs.drop j).flatMap encInstruction)) (fun _ i _ => xs.length - (intOf i).toNat)
    case atStart => exact ⟨0, Nat.zero_le _, rfl, by simp, Only.refl _ _, by simpa [marksE] using hv⟩
    case round =>
      obtain ⟨j, hj, rfl, rfl, ho, hown⟩ := hrel
      clear hv
      by_cases hlt : j < xs.length
      · have hln := marksE_len (mkInstruction k) xs j hj
        have hdn : ∀ i u, i < 2 → (encInstruction xs[j])[i]? = some u → wr.cell? ⟨g, j * 2 + i, none⟩ = some u := fun i u hi hu => by
          rw [hown.cellAt (j * 2 + i) (by omega), flat_at encInstruction 2 encInstruction_len _ j (by rw [hln]; exact hlt) i hi, marksE_at _ _ _ hlt, hu]
        have d0 := hdn 0 _ (by omega) rfl
        have d1 := hdn 1 _ (by omega) rfl
        rw [Nat.add_zero] at d0
        clear hdn
        have f0 := hown.frozenAt (j * 2)
        have f1 := hown.frozenAt (j * 2 + 1)
        clear hln
        have hgw : g < wr.heap.size := (own_block_lt hown g rfl).2
        go_wp2_with fail
        go_roundw
        case rel =>
          have h1 := ((hown.stored (j * 2) (.int .i64 (((k + j * 2 : Nat) : Int)))).1.stored (j * 2 + 1) (.int .i64 (((k + j * 2 + 1 : Nat) : Int)))).1
          have h2 := set_flat2 encInstruction 2 encInstruction_len (marksE (mkInstruction k) j ++ xs.drop j) j (by rw [marksE_len _ _ _ hj]; exact hlt) (mkInstruction k j)
          rw [marksE_set _ _ _ hlt] at h2
          simp only [setFrom, encInstruction, mkInstruction] at h2
          rw [h2] at h1
          refine ⟨j + 1, by omega, by go_num, by go_num, ?_⟩
          try simp only [Int.natCast_add, Int.natCast_mul, Int.natCast_one, Int.cast_ofNat_Int, Int.add_assoc, Int.reduceAdd, Nat.cast_ofNat] at h1 ⊢
          exact ⟨((ho.set rfl _).set rfl _), h1⟩
        case measure => simp [intOf]; omega
      · obtain rfl : j = xs.length := by omega
        go_wp2_with fail
        go_ret
        exact ⟨rfl, ho, by simpa using hown⟩
set_option maxHeartbeats 1600000 in
theorem heldInstructionS_any (v : Value) (k n : Nat) (w : World) (hv : Rd w v n ((marksE (mkInstruction k) n).flatMap encInstruction)) (hn : n ≤ 1048576) (hk : k ≤ 1048576000) :
    Calls Tryz.prog 30 #[v, .int .i64 k] w fun e w' => e = .returned (.int .i64 ((k + n * 2 : Nat) : Int)) ∧ w = w' := by
  have hl := marksE_length (mkInstruction k) n
  obtain ⟨a, cap, rfl, hm, HC⟩ := Rd.flat (xs := marksE (mkInstruction k) n) encInstruction_len (by omega) (by rw [hl]; exact hv)
  rw [hl] at hm ⊢
  clear hv
  go_enter Tryz.func30, Tryz.ntmps30
  go_wp2_with fail
  go_loop [1, 5] (fun kk i => ∃ j : Nat, j ≤ n ∧ i = .int .i64 j ∧ kk = .int .i64 ((k + j * 2 : Nat) : Int)) (fun _ i => n - (intOf i).toNat)
  case atStart => exact ⟨0, Nat.zero_le _, rfl, by simp⟩
  case round =>
    obtain ⟨j, hj, rfl, rfl⟩ := hrel
    by_cases hlt : j < n
    · obtain ⟨b, off, rfl, hb, hx⟩ := HC.out j (by rw [hl]; exact hlt)
      rw [marksE_get _ n j hlt] at hx
      have x0 := hx 0 _ (by omega) rfl
      have x1 := hx 1 _ (by omega) rfl
      rw [Nat.add_zero] at x0
      simp only [mkInstruction] at x0
      simp only [mkInstruction] at x1
      replace hx := Lib.hid hx
      clear hl
      go_wp2_with fail
      go_round
      case rel => exact ⟨j + 1, by omega, by go_num, by go_num⟩
      case measure => simp [intOf]; omega
    · obtain rfl : j = n := by omega
      go_wp2_with fail
      go_ret
      exact ⟨rfl, rfl⟩
end Go.Proofs.YtadoocadohdfcaaGreatDoor

namespace Go.Proofs.YtadoocadohdfcaaGreatDoor
open Go Go.Proofs Go.RowKit
set_option linter.unusedVariables false
set_option linter.unusedSimpArgs false
set_option maxRecDepth 100000
structure CodeD where
  ins : Int
  vars : Int
  outs : Int
  blocks : List ETerm
  steps : List EInstruction
abbrev RdT (w : World) (v : Value) (xs : List ETerm) : Prop := Rd w v xs.length (xs.flatMap encTerm)
abbrev RdN (w : World) (v : Value) (xs : List EInstruction) : Prop := Rd w v xs.length (xs.flatMap encInstruction)
def manyOf (c : CodeD) (op : Int) : Int :=
  if op = 1 then 2 else if op = 2 ∨ op = 10 then c.ins else if op = 3 ∨ op = 8 ∨ op = 11 then c.vars else if op = 4 ∨ op = 5 ∨ op = 6 then 1 else if op = 7 then c.blocks.length else if op = 9 then c.outs else 0
def fitsC (c : CodeD) (x : EInstruction) : Bool := decide (0 ≤ x.arg) && decide (x.arg < manyOf c x.op)
def kindAt (c : CodeD) (x : EInstruction) : Int := (c.blocks.getD x.arg.toNat ⟨0, ⟨#[]⟩, 0⟩).kind
def takesI (c : CodeD) (x : EInstruction) : Int :=
  if x.op = 1 ∨ x.op = 2 ∨ x.op = 3 then 0 else if x.op = 4 then 1 else if x.op = 5 ∨ x.op = 6 then 2 else if x.op = 7 then takes (kindAt c x) else if x.op = 8 ∨ x.op = 9 then 1 else 0
def givesI (x : EInstruction) : Int := if 1 ≤ x.op ∧ x.op ≤ 7 then 1 else 0
theorem takesI_bd (c : CodeD) (x : EInstruction) : 0 ≤ takesI c x ∧ takesI c x ≤ 2 := by
  unfold takesI; have := takes_bd (kindAt c x); repeat' split
  all_goals omega
theorem givesI_bd (x : EInstruction) : 0 ≤ givesI x ∧ givesI x ≤ 1 := by unfold givesI; split <;> omega
/-- The code's numbers are small. -/
structure SmallC (c : CodeD) : Prop where
  i0 : 0 ≤ c.ins
  i1 : c.ins ≤ 20
  v0 : 0 ≤ c.vars
  v1 : c.vars ≤ 20
  o0 : 0 ≤ c.outs
  o1 : c.outs ≤ 20
  b1 : c.blocks.length ≤ 2000
  s1 : c.steps.length ≤ 2000
theorem fits_op {c : CodeD} {x : EInstruction} (h : fitsC c x = true) : 1 ≤ x.op ∧ x.op ≤ 11 ∧ 0 ≤ x.arg ∧ (x.op = 7 → x.arg < c.blocks.length) := by
  rw [fitsC] at h; simp at h
  obtain ⟨h1, h2⟩ := h
  unfold manyOf at h2
  refine ⟨?_, ?_, h1, fun e => ?_⟩
  · repeat' split at h2
    all_goals omega
  · repeat' split at h2
    all_goals omega
  · rw [e] at h2; simpa using h2
end Go.Proofs.YtadoocadohdfcaaGreatDoor

namespace Go.Proofs.YtadoocadohdfcaaGreatDoor
open Go Go.Proofs Go.RowKit
set_option linter.unusedVariables false
set_option linter.unusedSimpArgs false
set_option maxRecDepth 100000
def crun (c : CodeD) : List EInstruction → Int → List Int → Option (List Int × Int)
  | [], n, acc => some (acc, n)
  | x :: xs, n, acc => if fitsC c x = true ∧ takesI c x ≤ n ∧ n - takesI c x + givesI x ≤ 40 then crun c xs (n - takesI c x + givesI x) (acc ++ [n - takesI c x + givesI x]) else none
def stackOf (c : CodeD) : List Int := match crun c c.steps 0 [] with | some (acc, _) => acc | none => []
def okC (c : CodeD) : Bool := match crun c c.steps 0 [] with | some (_, n) => n == 0 | none => false
theorem C_none {c : CodeD} (h : crun c c.steps 0 [] = none) : stackOf c = [] ∧ okC c = false := by
  refine ⟨?_, ?_⟩
  · rw [stackOf, h]
  · rw [okC, h]
theorem C_some {c : CodeD} {acc : List Int} {n : Int} (h : crun c c.steps 0 [] = some (acc, n)) : stackOf c = acc ∧ okC c = (n == 0) := by
  refine ⟨?_, ?_⟩
  · rw [stackOf, h]
  · rw [okC, h]
theorem crun_step {c : CodeD} {xs : List EInstruction} {k : Nat} {n : Int} {acc : List Int} (hk : k < xs.length) (h1 : fitsC c xs[k] = true) (h2 : takesI c xs[k] ≤ n) (h3 : n - takesI c xs[k] + givesI xs[k] ≤ 40) :
    crun c (xs.drop k) n acc = crun c (xs.drop (k + 1)) (n - takesI c xs[k] + givesI xs[k]) (acc ++ [n - takesI c xs[k] + givesI xs[k]]) := by
  rw [List.drop_eq_getElem_cons hk, crun, if_pos ⟨h1, h2, h3⟩]
theorem crun_stop {c : CodeD} {xs : List EInstruction} {k : Nat} {n : Int} {acc : List Int} (hk : k < xs.length) (h : fitsC c xs[k] = false ∨ n < takesI c xs[k] ∨ 40 < n - takesI c xs[k] + givesI xs[k]) :
    crun c (xs.drop k) n acc = none := by
  rw [List.drop_eq_getElem_cons hk, crun, if_neg]
  rintro ⟨h1, h2, h3⟩
  rcases h with h | h | h
  · rw [h] at h1; cases h1
  · omega
  · omega
theorem crun_end {c : CodeD} {xs : List EInstruction} {n : Int} {acc : List Int} : crun c (xs.drop xs.length) n acc = some (acc, n) := by rw [List.drop_length, crun]
end Go.Proofs.YtadoocadohdfcaaGreatDoor

namespace Go.Proofs.YtadoocadohdfcaaGreatDoor
open Go Go.Proofs Go.RowKit
set_option linter.unusedVariables false
set_option linter.unusedSimpArgs false
set_option maxRecDepth 100000
def smallB (c : CodeD) : Bool := inB c.ins 0 20 && inB c.vars 0 20 && inB c.outs 0 20 && decide (c.blocks.length ≤ 2000) && decide (c.steps.length ≤ 2000)
theorem small_of {c : CodeD} (h : smallB c = true) : SmallC c := by
  rw [smallB] at h; simp [inB] at h
  obtain ⟨⟨⟨⟨⟨a1, a2⟩, a3, a4⟩, a5, a6⟩, a7⟩, a8⟩ := h
  exact ⟨a1, a2, a3, a4, a5, a6, a7, a8⟩
def isBlkE (t : ETerm) : Bool := isBlk t.kind t.name t.num
def isCodeB (c : CodeD) : Bool := smallB c && !(c.blocks.any fun t => !isBlkE t) && okC c
end Go.Proofs.YtadoocadohdfcaaGreatDoor

namespace Go.Proofs.YtadoocadohdfcaaGreatDoor
open Go Go.Proofs Go.RowKit
set_option linter.unusedVariables false
set_option linter.unusedSimpArgs false
set_option maxRecDepth 100000
/-- A code's value. -/
abbrev valC (c : CodeD) (bv sv : Value) : Value := .agg #[.int .i64 c.ins, .int .i64 c.vars, .int .i64 c.outs, bv, sv]
def szC (c : CodeD) (left : Int) : Int := if szTermS c.blocks left < 0 then -1 else szL c.steps.length (szTermS c.blocks left)
theorem szC_bd (c : CodeD) (left : Int) (h : 0 ≤ left) : -1 ≤ szC c left ∧ szC c left ≤ left := by
  have h1 := szTermS_bd c.blocks left h
  rw [szC]; split
  · omega
  · have := szL_range (n := c.steps.length) (left := szTermS c.blocks left) (B := left) (by omega) (by omega); omega
theorem szC_fit (c : CodeD) (left : Int) (h : 0 ≤ left) (h' : left ≤ 1048576) (h2 : 0 ≤ szC c left) : (∀ x ∈ c.blocks, fitTerm x) ∧ c.blocks.length ≤ 1048576 ∧ c.steps.length ≤ 1048576 := by
  have h1 := szTermS_bd c.blocks left h
  rw [szC] at h2; split at h2
  · omega
  · have := szL_bd h2
    exact ⟨szTermS_fit c.blocks left h h' (by omega), by have := h1.2.2 (by omega); omega, by omega⟩
set_option maxHeartbeats 1000000 in
theorem eqCode_any (c : CodeD) (bv sv bv' sv' : Value) (w : World) (hb : RdT w bv c.blocks) (hs : RdN w sv c.steps) (hb' : RdT w bv' c.blocks) (hs' : RdN w sv' c.steps) :
    Calls Tryz.prog 8 #[valC c bv sv, valC c bv' sv'] w fun e w' => e = .returned (.bool true) ∧ New w w' := by
  have HB := Lib.hid hb; clear hb
  have HS := Lib.hid hs; clear hs
  have HB' := Lib.hid hb'; clear hb'
  have HS' := Lib.hid hs'; clear hs'
  have zz : w.heap.size < w.heap.size + 1 + 1 := by omega
  have n1 : (c.ins != c.ins) = false := by simp
  have n2 : (c.vars != c.vars) = false := by simp
  have n3 : (c.outs != c.outs) = false := by simp
  go_enter Tryz.func8, Tryz.ntmps8
  go_wp2_with fail
  refine (eqTermS_any _ _ c.blocks c.blocks _ (Rd.new HB.out (by repeat (first | with_reducible exact New.refl _ | with_reducible assumption | with_reducible refine New.drew ?_ | with_reducible refine New.drewN ?_ _ | with_reducible refine New.alloc ?_ _ | with_reducible refine New.setCell ?_ (by first | (simp; done) | (simp; omega) | omega) _ | with_reducible refine New.trans ?_ (by with_reducible assumption)))) (Rd.new HB'.out (by repeat (first | with_reducible exact New.refl _ | with_reducible assumption | with_reducible refine New.drew ?_ | with_reducible refine New.drewN ?_ _ | with_reducible refine New.alloc ?_ _ | with_reducible refine New.setCell ?_ (by first | (simp; done) | (simp; omega) | omega) _ | with_reducible refine New.trans ?_ (by with_reducible assumption))))).mono ?_; rintro e w1 ⟨rfl, b1⟩
  try with_reducible replace b1 := New.undrawN b1
  try with_reducible replace b1 := New.undraw b1
  obtain ⟨c1, f1⟩ := b1.rules
  have z1 := b1.size
  try simp only [World.size_alloc, World.size_drew, World.heap_drewN, World.size_setCell] at z1
  have z1_0 : w.heap.size < w1.heap.size := by omega
  have z1_1 : w.heap.size + 1 < w1.heap.size := by omega
  go_wp2_with fail
  refine (eqInstructionS_any _ _ c.steps c.steps _ (Rd.new HS.out (by repeat (first | with_reducible exact New.refl _ | with_reducible assumption | with_reducible refine New.drew ?_ | with_reducible refine New.drewN ?_ _ | with_reducible refine New.alloc ?_ _ | with_reducible refine New.setCell ?_ (by first | (simp; done) | (simp; omega) | omega) _ | with_reducible refine New.trans ?_ (by with_reducible assumption)))) (Rd.new HS'.out (by repeat (first | with_reducible exact New.refl _ | with_reducible assumption | with_reducible refine New.drew ?_ | with_reducible refine New.drewN ?_ _ | with_reducible refine New.alloc ?_ _ | with_reducible refine New.setCell ?_ (by first | (simp; done) | (simp; omega) | omega) _ | with_reducible refine New.trans ?_ (by with_reducible assumption))))).mono ?_; rintro e w2 ⟨rfl, b2⟩
  try with_reducible replace b2 := New.undrawN b2
  try with_reducible replace b2 := New.undraw b2
  obtain ⟨c2, f2⟩ := b2.rules
  have z2 := b2.size
  try simp only [World.size_alloc, World.size_drew, World.heap_drewN, World.size_setCell] at z2
  have z2_0 : w.heap.size < w2.heap.size := by omega
  have z2_1 : w.heap.size + 1 < w2.heap.size := by omega
  go_wp2_with fail
  go_ret
  exact ⟨rfl, (by repeat (first | with_reducible exact New.refl _ | with_reducible assumption | with_reducible refine New.drew ?_ | with_reducible refine New.drewN ?_ _ | with_reducible refine New.alloc ?_ _ | with_reducible refine New.setCell ?_ (by first | (simp; done) | (simp; omega) | omega) _ | with_reducible refine New.trans ?_ (by with_reducible assumption)))⟩
def stepsC (c : CodeD) (op : Int) : Int × Int := if isCodeB c = true then (if inB op 1 11 = true then (((c.steps.countP fun x => x.op == op : Nat) : Int), 0) else (0, 2)) else (0, 1)
theorem count_next {α : Type} (p : α → Bool) (xs : List α) (k : Nat) (h : k < xs.length) : (xs.take (k + 1)).countP p = (xs.take k).countP p + (if p xs[k] = true then 1 else 0) := by
  rw [List.take_succ_eq_append_getElem h, List.countP_append, List.countP_singleton]
theorem count_le {α : Type} (p : α → Bool) (xs : List α) (k : Nat) : (xs.take k).countP p ≤ xs.length := by
  refine Nat.le_trans List.countP_le_length ?_
  rw [List.length_take]; omega
theorem truth_any (b : Bool) (w : World) : Calls Tryz.prog 90 #[.bool b] w fun e w' => e = .returned (.int .i64 (if b = true then 1 else 0)) ∧ w = w' := by
  go_enter Tryz.func90, Tryz.ntmps90
  cases b
  all_goals go_wp2_with fail
  all_goals first | (go_ret; exact ⟨rfl, rfl⟩) | (exfalso; simp_all; done)
/-- The heights, and a code. -/
def heightsC (c : CodeD) : List Int × Int := if isCodeB c = true then (stackOf c, 0) else ([], 1)
end Go.Proofs.YtadoocadohdfcaaGreatDoor

namespace Go.Proofs.YtadoocadohdfcaaGreatDoor
open Go Go.Proofs Go.RowKit
set_option linter.unusedVariables false
set_option linter.unusedSimpArgs false
set_option maxRecDepth 100000
theorem markCode_any (c : CodeD) (bv sv : Value) (B B2 E k : Nat) (w : World) (hb : w.ownsRow B 63 3 bv c.blocks.length (c.blocks.flatMap encTerm)) (hs : w.ownsRow B2 65 2 sv c.steps.length (c.steps.flatMap encInstruction)) (hBB : B ≤ B2)
    (hk : k ≤ 100000000) (h1 : c.blocks.length ≤ 1048576) (h2 : c.steps.length ≤ 1048576) (hbE : ∀ k, bv.ownBlock = some k → k < E ∧ k < B2) (hsE : ∀ k, sv.ownBlock = some k → k < E) (hB : B ≤ w.heap.size) (hE : E ≤ w.heap.size) :
    Calls Tryz.prog 11 #[valC c bv sv, .int .i64 k] w fun e w' => e = .returned (.int .i64 ((k + c.blocks.length * 3 + c.steps.length * 2 : Nat) : Int)) ∧ Turned B E w w' := by
  have hbb := own_block_lt hb
  have hsb := own_block_lt hs
  go_enter Tryz.func11, Tryz.ntmps11
  go_wp2_with fail
  refine (markTermS_any _ c.blocks B k _ (hb.alloc _) h1 (by omega)).mono ?_
  rintro e w1 ⟨rfl, on1, own1⟩
  have t1 : Turned B E _ w1 := Turned.of_onlyG on1 (by simp; omega) (fun k hk => ⟨(hbb k hk).1, (hbE k hk).1⟩)
  have s1 := onlyG_own on1 (hs.alloc (.cells #[.int .i64 c.ins, .int .i64 c.vars, .int .i64 c.outs, bv, sv] 30)) (fun k hk => (hbE k hk).2)
  have d1 := t1.abv (b := w.heap.size) (o := 4) hE (by simp)
  simp at d1
  go_wp2_with fail
  refine (markInstructionS_any _ c.steps B2 (k + c.blocks.length * 3) _ s1 h2 (by omega)).mono ?_
  rintro e w2 ⟨rfl, on2, own2⟩
  have t2 : Turned B E _ w2 := Turned.of_only on2 (by have := Below.size t1.1; simp at this; omega) (fun k hk => ⟨by have := (hsb k hk).1; omega, hsE k hk⟩)
  go_wp2_with fail
  go_ret
  exact ⟨rfl, ((Turned.of_new hB ((New.refl w).alloc _)).trans t1).trans t2⟩
end Go.Proofs.YtadoocadohdfcaaGreatDoor

namespace Go.Proofs.YtadoocadohdfcaaGreatDoor
open Go Go.Proofs Go.RowKit
set_option linter.unusedVariables false
set_option linter.unusedSimpArgs false
set_option maxRecDepth 100000
theorem own_apartC {u v : Value} {w w' : World} {base : Nat} {e : TypeId} {sz n : Nat} {cs : List Value} (h : w.grownBy w' v.ownBlock) (hu : w.ownsRow base e sz u n cs) (hne : ∀ i j, v.ownBlock = some i → u.ownBlock = some j → i ≠ j) : w'.ownsRow base e sz u n cs := by
  refine hu.kept h ?_
  cases hb : u.ownBlock with
  | none => exact .inl rfl
  | some k => exact .inr (fun e => hne k k e.symm hb rfl)
theorem markCode2_any (c : CodeD) (bv sv : Value) (B E k : Nat) (w : World) (hb : w.ownsRow B 63 3 bv c.blocks.length (c.blocks.flatMap encTerm)) (hs : w.ownsRow B 65 2 sv c.steps.length (c.steps.flatMap encInstruction)) (hne : ∀ i j, bv.ownBlock = some i → sv.ownBlock = some j → i ≠ j)
    (hk : k ≤ 100000000) (h1 : c.blocks.length ≤ 1048576) (h2 : c.steps.length ≤ 1048576) (hbE : ∀ k, bv.ownBlock = some k → k < E) (hsE : ∀ k, sv.ownBlock = some k → k < E) (hB : B ≤ w.heap.size) (hE : E ≤ w.heap.size) :
    Calls Tryz.prog 11 #[valC c bv sv, .int .i64 k] w fun e w' => e = .returned (.int .i64 ((k + c.blocks.length * 3 + c.steps.length * 2 : Nat) : Int)) ∧ Turned B E w w' ∧
      Rd w' bv c.blocks.length ((marksE (mkTerm k) c.blocks.length).flatMap encTerm) ∧ Rd w' sv c.steps.length ((marksE (mkInstruction (k + c.blocks.length * 3)) c.steps.length).flatMap encInstruction) := by
  have hbb := own_block_lt hb
  have hsb := own_block_lt hs
  go_enter Tryz.func11, Tryz.ntmps11
  go_wp2_with fail
  refine (markTermS_any _ c.blocks B k _ (hb.alloc _) h1 (by omega)).mono ?_
  rintro e w1 ⟨rfl, on1, own1⟩
  have t1 : Turned B E _ w1 := Turned.of_onlyG on1 (by simp; omega) (fun k hk => ⟨(hbb k hk).1, hbE k hk⟩)
  have s1 := own_apartC on1 (hs.alloc (.cells #[.int .i64 c.ins, .int .i64 c.vars, .int .i64 c.outs, bv, sv] 30)) hne
  have d1 := t1.abv (b := w.heap.size) (o := 4) hE (by simp)
  simp at d1
  go_wp2_with fail
  refine (markInstructionS_any _ c.steps B (k + c.blocks.length * 3) _ s1 h2 (by omega)).mono ?_
  rintro e w2 ⟨rfl, on2, own2⟩
  have t2 : Turned B E _ w2 := Turned.of_only on2 (by have := Below.size t1.1; simp at this; omega) (fun k hk => ⟨by have := (hsb k hk).1; omega, hsE k hk⟩)
  have own12 := own_apartC on2.2 own1 (fun i j hi hj e => hne j i hj hi e.symm)
  go_wp2_with fail
  go_ret
  exact ⟨rfl, ((Turned.of_new hB ((New.refl w).alloc _)).trans t1).trans t2, own_rd own12, own_rd own2⟩
theorem heldCode_any (i v o : Int) (bv sv : Value) (k n m : Nat) (w : World) (hb : Rd w bv n ((marksE (mkTerm k) n).flatMap encTerm)) (hs : Rd w sv m ((marksE (mkInstruction (k + n * 3)) m).flatMap encInstruction))
    (hk : k ≤ 100000000) (h1 : n ≤ 1048576) (h2 : m ≤ 1048576) :
    Calls Tryz.prog 12 #[.agg #[.int .i64 i, .int .i64 v, .int .i64 o, bv, sv], .int .i64 k] w fun e w' => e = .returned (.int .i64 ((k + n * 3 + m * 2 : Nat) : Int)) ∧ New w w' := by
  have HB := Lib.hid hb; clear hb
  have HS := Lib.hid hs; clear hs
  have e0 : ((k + n * 3 : Nat) : Int) = (k : Int) + (n : Int) * 3 := by omega
  go_enter Tryz.func12, Tryz.ntmps12
  go_wp2_with fail
  refine (heldTermS_any _ k n _ (Rd.new HB.out (by repeat (first | with_reducible exact New.refl _ | with_reducible assumption | with_reducible refine New.drew ?_ | with_reducible refine New.drewN ?_ _ | with_reducible refine New.alloc ?_ _ | with_reducible refine New.setCell ?_ (by first | (simp; done) | (simp; omega) | omega) _ | with_reducible refine New.trans ?_ (by with_reducible assumption)))) h1 (by omega)).mono ?_; rintro e w1 ⟨rfl, b1⟩
  try with_reducible replace b1 := New.undrawN b1
  try with_reducible replace b1 := New.undraw b1
  obtain ⟨c1, f1⟩ := b1.rules
  have z1 := b1.size
  try simp only [World.size_alloc, World.size_drew, World.heap_drewN, World.size_setCell] at z1
  have z1_0 : w.heap.size < w1.heap.size := by omega
  go_wp2_with fail
  refine (heldInstructionS_any _ (k + n * 3) m _ (Rd.new HS.out (by repeat (first | with_reducible exact New.refl _ | with_reducible assumption | with_reducible refine New.drew ?_ | with_reducible refine New.drewN ?_ _ | with_reducible refine New.alloc ?_ _ | with_reducible refine New.setCell ?_ (by first | (simp; done) | (simp; omega) | omega) _ | with_reducible refine New.trans ?_ (by with_reducible assumption)))) h2 (by omega)).mono ?_; rintro e w2 ⟨rfl, rfl⟩
  go_wp2_with fail
  go_ret
  exact ⟨rfl, (by repeat (first | with_reducible exact New.refl _ | with_reducible assumption | with_reducible refine New.drew ?_ | with_reducible refine New.drewN ?_ _ | with_reducible refine New.alloc ?_ _ | with_reducible refine New.setCell ?_ (by first | (simp; done) | (simp; omega) | omega) _ | with_reducible refine New.trans ?_ (by with_reducible assumption)))⟩
end Go.Proofs.YtadoocadohdfcaaGreatDoor
