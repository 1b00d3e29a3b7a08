/- Contracts: the program's compiler of programs: its parts. -/
import Derived.Test.YtadoocadohdfcaaGreatDoorProg
import Derived.Test.YtadoocadohdfcaaGreatDoorCompP
import Derived.Test.YtadoocadohdfcaaGreatDoorMrgD
import Derived.Test.YtadoocadohdfcaaGreatDoorSound6
import Derived.Test.YtadoocadohdfcaaGreatDoorMrgC
import Derived.Test.YtadoocadohdfcaaGreatDoorStrs
namespace Go.Proofs.YtadoocadohdfcaaGreatDoor
open Go Go.Proofs Go.RowKit
set_option linter.unusedVariables false
set_option linter.unusedSimpArgs false
set_option maxRecDepth 100000
theorem flatI_appE (xs : List EInstruction) (x : EInstruction) : (xs ++ [x]).flatMap encInstruction = xs.flatMap encInstruction ++ [.int .i64 x.op, .int .i64 x.arg] := by rw [List.flatMap_append]; rfl
/-- The compiler that is block O: a world in which it has written the instructions xs and met b blocks. -/
def CompSt (W0 : World) (O : Nat) (p : ProgD) (iv vv ov lv bv : Value) (xs : List EInstruction) (b : Int) (w : World) : Prop :=
  ∃ sa sc, New W0 w ∧ Blk w O #[.string p.name, iv, vv, ov, .string p.guard, lv, .int .i64 p.inputs.length, .int .i64 p.vars.length, .int .i64 p.outputs.length, bv, .slice sa xs.length sc, .int .i64 b] 76 ∧
    w.ownsRow W0.heap.size 65 2 (.slice sa xs.length sc) xs.length (xs.flatMap encInstruction) ∧ w.ownsRow W0.heap.size 63 3 bv (blkP p).length ((blkP p).flatMap encTerm)
theorem CompSt.more {W0 : World} {O : Nat} {p : ProgD} {iv vv ov lv bv : Value} {xs : List EInstruction} {b : Int} {w w' : World} (h : CompSt W0 O p iv vv ov lv bv xs b w) (hn : New w w') : CompSt W0 O p iv vv ov lv bv xs b w' := by
  obtain ⟨sa, sc, h1, h2, h3, h4⟩ := h
  exact ⟨sa, sc, h1.trans hn, h2.new hn, own_new h3 hn, own_new h4 hn⟩
/-- Known blocks of other types are kept. -/
def KeptT (w w' : World) : Prop := ∀ q cs T, T ≠ 76 → T ≠ 65 → Blk w q cs T → Blk w' q cs T
theorem KeptT.refl (w : World) : KeptT w w := fun _ _ _ _ _ h => h
theorem KeptT.trans {u v w : World} (h : KeptT u v) (k : KeptT v w) : KeptT u w := fun q cs T h1 h2 hb => k q cs T h1 h2 (h q cs T h1 h2 hb)
theorem KeptT.of_new {w w' : World} (h : New w w') : KeptT w w' := fun _ _ _ _ _ hb => hb.new h
theorem KeptT.set {w w' : World} {O o : Nat} {cs : Array Value} (h : KeptT w w') (hK : Blk w' O cs 76) (u : Value) : KeptT w (w'.setCell ⟨O, o, none⟩ u) := fun q ds T h1 h2 hb => by
  have h3 := h q ds T h1 h2 hb
  refine h3.set_ne (fun e => ?_) u
  subst e
  have := hK.symm.trans h3
  simp at this
  exact h1 this.2.symm
def RetSt (w W0 : World) (O : Nat) (p : ProgD) (iv vv ov lv bv : Value) (xs : List EInstruction) (b : Int) (e : Ending) (w' : World) : Prop := e = .returned (.tuple #[]) ∧ KeptT w w' ∧ CompSt W0 O p iv vv ov lv bv xs b w'
theorem RetSt.pre {w w0 W0 : World} {O : Nat} {p : ProgD} {iv vv ov lv bv : Value} {xs : List EInstruction} {b : Int} {e : Ending} {w' : World} (h0 : New w w0) (h : RetSt w0 W0 O p iv vv ov lv bv xs b e w') : RetSt w W0 O p iv vv ov lv bv xs b e w' := ⟨h.1, (KeptT.of_new h0).trans h.2.1, h.2.2⟩
set_option maxHeartbeats 1000000 in
theorem emit_any (W0 : World) (O : Nat) (p : ProgD) (iv vv ov lv bv : Value) (xs : List EInstruction) (b o q : Int) (w : World) (hO : W0.heap.size ≤ O) (hl : xs.length ≤ 2000) (h : CompSt W0 O p iv vv ov lv bv xs b w) :
    Calls Tryz.prog 74 #[.pointer (some ⟨O, 0, none⟩), .int .i64 o, .int .i64 q] w (RetSt w W0 O p iv vv ov lv bv (xs ++ [⟨o, q⟩]) b) := by
  obtain ⟨i0, hi, hz0, hz1, hz2⟩ := info_parts infoInstruction
  obtain ⟨sa, sc, hn, K, o1, o2⟩ := h
  obtain ⟨cO, fO⟩ := K.rules
  have hOr := K.lt
  have hOr1 : O < w.heap.size + 1 := by omega
  have hz := hn.size
  go_enter Tryz.func74, Tryz.ntmps74
  go_wp2_with (first | (at_builtin; refine wpList_append_own _ rfl _ _ 28 rfl (W0.heap.size) 65 i0 (Value.agg #[.int .i64 0, .int .i64 0]) 2 16 Tryz.underlying28 hi hz0 hz1 hz2 rfl (by decide) _ _ _ rfl (o1.alloc _) ⟨w.heap.size, 0, none⟩ 1 1 [.int .i64 o, .int .i64 q] rfl rfl (fun j u hj => alloc_row (by first | rfl | simp) j u hj) (by intro u hu; simp at hu; rcases hu with rfl | rfl <;> rfl) (by unfold maxLen; omega) (by omega) (by first | (simp; done) | (simp; omega) | omega) ?_; intro va wa howna hgra _; have K2 := (K.alloc _).grown hgra (blk_ne_ownK K o1 (by decide)); obtain ⟨c2, f2⟩ := K2.rules; have hO2 := K2.lt; obtain ⟨ya, yc, rfl⟩ := own_slice howna))
  refine bodyPost_ret (v := .tuple #[]) (by simp [results, Tryz.results74, go_sem]) rfl ?_
  have o3 := own_grK (o2.alloc _) hgra (fun i j hi hj => own_ne_ownK o1 o2 (by decide) i j hi hj)
  have n3 := New.grown (hn.alloc _) hgra (fun k hk => (own_block_lt o1 k hk).1)
  have K6 := K2.set 10 (.slice ya (xs.length + 1) yc)
  simp only [List.setIfInBounds_toArray, List.set_cons_succ, List.set_cons_zero] at K6
  have hne1 := blk_ne_ownK K2 howna (by decide)
  have hne2 := blk_ne_ownK K2 o3 (by decide)
  have hkt : KeptT w _ := fun q ds T h1 h2 hb => (hb.alloc _).grown hgra (blk_ne_ownK hb o1 h2)
  refine ⟨rfl, hkt.set K2 _, ya, yc, n3.setCell (p := ⟨O, 10, none⟩) hO _, ?_, ?_, own_setK o3 hne2 _⟩
  · rw [List.length_append, List.length_singleton]; exact K6
  · rw [List.length_append, flatI_appE]; exact own_setK howna hne1 _
theorem iIdS_any (x : ByteArray) (v : Value) (xs : List ByteArray) (w : World) (hv : RdS w v xs) :
    Calls Tryz.prog 73 #[v, .string x] w fun e w' => e = .returned (.int .i64 (idS xs x)) ∧ w = w' := indexS_any x v xs w hv
theorem iIdN_any (x : ByteArray) (v : Value) (xs : List ByteArray) (w : World) (hv : RdS w v xs) :
    Calls Tryz.prog 73 #[v, .string x] w fun e w' => e = .returned (.int .i64 (idS xs x)) ∧ New w w' := (indexS_any x v xs w hv).mono (by rintro e w' ⟨h1, rfl⟩; exact ⟨h1, New.refl _⟩)
set_option maxHeartbeats 2000000 in
theorem load_any (W0 : World) (O : Nat) (p : ProgD) (iv vv ov lv bv : Value) (xs : List EInstruction) (b : Int) (s : ByteArray) (i v : Int) (w : World) (hp : RdP W0 p iv vv ov lv) (hO : W0.heap.size ≤ O) (hl : xs.length ≤ 2000) (h : CompSt W0 O p iv vv ov lv bv xs b w) :
    Calls Tryz.prog 42 #[.pointer (some ⟨O, 0, none⟩), .string s, .int .i64 i, .int .i64 v] w (RetSt w W0 O p iv vv ov lv bv (xs ++ [nameI p s i v]) b) := by
  have HP := Lib.hid hp
  obtain ⟨ia, ic, rfl, _⟩ := id hp.ins
  obtain ⟨va, vc, rfl, _⟩ := id hp.vars
  clear hp
  have HS := Lib.hid h
  have HE := Lib.hid (fun (o q : Int) => emit_any W0 O p _ _ ov lv bv xs b o q w hO hl h)
  obtain ⟨sa, sc, hn, K, _, _⟩ := h
  obtain ⟨cO, fO⟩ := K.rules
  have hOr := K.lt
  by_cases h : 0 ≤ idS p.inputs s
  · have HN := Lib.hid (show nameI p s i v = ⟨i, idS p.inputs s⟩ by rw [nameI, if_pos h])
    go_enter Tryz.func42, Tryz.ntmps42
    go_wp2_with (first | (go_at_call 73; refine (iIdS_any s _ p.inputs _ (Rd.new HP.out.ins hn)).mono ?_; rintro e _ ⟨rfl, rfl⟩))
    refine (HE.out i (idS p.inputs s)).mono ?_
    rintro e w2 ⟨rfl, hk2, h2⟩
    go_wp2_with fail
    refine bodyPost_ret (v := .tuple #[]) (by simp [results, Tryz.results42, go_sem]) rfl ?_
    exact ⟨rfl, hk2, by rw [HN.out]; exact h2⟩
  · have HN := Lib.hid (show nameI p s i v = ⟨v, idS p.vars s⟩ by rw [nameI, if_neg h])
    go_enter Tryz.func42, Tryz.ntmps42
    go_wp2_with fail
    refine (iIdS_any s _ p.inputs _ (Rd.new HP.out.ins hn)).mono ?_; rintro e _ ⟨rfl, rfl⟩
    go_wp2_with fail
    refine (iIdS_any s _ p.vars _ (Rd.new HP.out.vars hn)).mono ?_; rintro e _ ⟨rfl, rfl⟩
    go_wp2_with fail
    refine (HE.out v (idS p.vars s)).mono ?_
    rintro e w2 ⟨rfl, hk2, h2⟩
    go_wp2_with fail
    refine bodyPost_ret (v := .tuple #[]) (by simp [results, Tryz.results42, go_sem]) rfl ?_
    exact ⟨rfl, hk2, by rw [HN.out]; exact h2⟩
theorem truth17_any (b : Bool) (w : World) : Calls Tryz.prog 90 #[.bool b] w fun e w' => e = .returned (.int .i64 (if b = true then 1 else 0)) ∧ w = w' := by
  go_enter Tryz.func90, Tryz.ntmps90
  cases b
  · go_wp2_with fail
    go_ret
    exact ⟨rfl, rfl⟩
  · go_wp2_with fail
    go_ret
    exact ⟨rfl, rfl⟩
set_option maxHeartbeats 2000000 in
theorem term_any (W0 : World) (O : Nat) (p : ProgD) (iv vv ov lv bv : Value) (xs : List EInstruction) (b : Int) (t : ETerm) (w : World) (hp : RdP W0 p iv vv ov lv) (hO : W0.heap.size ≤ O) (hl : xs.length ≤ 2000) (hb0 : 0 ≤ b) (hb : b ≤ 2000) (h : CompSt W0 O p iv vv ov lv bv xs b w) :
    Calls Tryz.prog 72 #[.pointer (some ⟨O, 0, none⟩), .agg #[.int .i64 t.kind, .string t.name, .int .i64 t.num]] w (RetSt w W0 O p iv vv ov lv bv (termA p (xs, b) t).1 (termA p (xs, b) t).2) := by
  obtain ⟨kd, nm, nu⟩ := t
  have HS := Lib.hid h
  have HE := Lib.hid (fun (o q : Int) (w0 : World) (h0 : New w w0) => (emit_any W0 O p iv vv ov lv bv xs b o q w0 hO hl (h.more h0)).mono (fun e w' h => RetSt.pre h0 h))
  have HL := Lib.hid (fun (w0 : World) (h0 : New w w0) => (load_any W0 O p iv vv ov lv bv xs b nm 2 3 w0 hp hO hl (h.more h0)).mono (fun e w' h => RetSt.pre h0 h))
  clear hp
  obtain ⟨sa, sc, hn, K, _, _⟩ := id h
  have KB : Blk (w.alloc (.cells #[.int .i64 kd, .string nm, .int .i64 nu] 63)) O _ _ := K.alloc _
  obtain ⟨cO, fO⟩ := KB.rules
  have hOr := K.lt
  have hOr1 : O < w.heap.size + 1 := by omega
  clear K h
  dsimp only
  rcases (by omega : kd = 1 ∨ kd = 2 ∨ kd = 3 ∨ kd = 4 ∨ kd = 5 ∨ kd = 6 ∨ (¬ kd = 1 ∧ ¬ kd = 2 ∧ ¬ kd = 3 ∧ ¬ kd = 4 ∧ ¬ kd = 5 ∧ ¬ kd = 6)) with rfl | rfl | rfl | rfl | rfl | rfl | ⟨g1, g2, g3, g4, g5, g6⟩
  · have HT := Lib.hid (show termA p (xs, b) ⟨1, nm, nu⟩ = (xs ++ [nameI p nm 2 3], b) by simp [termA, termI, callT])
    generalize nameI p nm 2 3 = NI at HT HL
    rw [HT.out]
    go_enter Tryz.func72, Tryz.ntmps72
    go_wp2_with fail
    refine (HL.out _ (by repeat (first | with_reducible exact New.refl _ | with_reducible assumption | with_reducible refine New.drew ?_ | with_reducible refine New.drewN ?_ _ | with_reducible refine New.alloc ?_ _ | with_reducible refine New.setCell ?_ (by first | (simp; done) | (simp; omega) | omega) _ | with_reducible refine New.trans ?_ (by with_reducible assumption)))).mono ?_
    rintro e w2 ⟨rfl, hk2, h2⟩
    go_wp2_with fail
    refine bodyPost_ret (v := .tuple #[]) (by simp [results, Tryz.results72, go_sem]) rfl ?_
    exact ⟨rfl, hk2, h2⟩
  · have HT := Lib.hid (show termA p (xs, b) ⟨2, nm, nu⟩ = (xs ++ [⟨1, 1⟩], b) by simp [termA, termI, callT])
    rw [HT.out]
    go_enter Tryz.func72, Tryz.ntmps72
    go_wp2_with (first | (go_at_call 90; refine (truth17_any _ _).mono ?_; rintro e _ ⟨rfl, rfl⟩))
    refine (HE.out 1 1 _ (by repeat (first | with_reducible exact New.refl _ | with_reducible assumption | with_reducible refine New.drew ?_ | with_reducible refine New.drewN ?_ _ | with_reducible refine New.alloc ?_ _ | with_reducible refine New.setCell ?_ (by first | (simp; done) | (simp; omega) | omega) _ | with_reducible refine New.trans ?_ (by with_reducible assumption)))).mono ?_
    rintro e w2 ⟨rfl, hk2, h2⟩
    go_wp2_with fail
    refine bodyPost_ret (v := .tuple #[]) (by simp [results, Tryz.results72, go_sem]) rfl ?_
    exact ⟨rfl, hk2, h2⟩
  · have HT := Lib.hid (show termA p (xs, b) ⟨3, nm, nu⟩ = (xs ++ [⟨1, 0⟩], b) by simp [termA, termI, callT])
    rw [HT.out]
    go_enter Tryz.func72, Tryz.ntmps72
    go_wp2_with (first | (go_at_call 90; refine (truth17_any _ _).mono ?_; rintro e _ ⟨rfl, rfl⟩))
    refine (HE.out 1 0 _ (by repeat (first | with_reducible exact New.refl _ | with_reducible assumption | with_reducible refine New.drew ?_ | with_reducible refine New.drewN ?_ _ | with_reducible refine New.alloc ?_ _ | with_reducible refine New.setCell ?_ (by first | (simp; done) | (simp; omega) | omega) _ | with_reducible refine New.trans ?_ (by with_reducible assumption)))).mono ?_
    rintro e w2 ⟨rfl, hk2, h2⟩
    go_wp2_with fail
    refine bodyPost_ret (v := .tuple #[]) (by simp [results, Tryz.results72, go_sem]) rfl ?_
    exact ⟨rfl, hk2, h2⟩
  · have HT := Lib.hid (show termA p (xs, b) ⟨4, nm, nu⟩ = (xs ++ [⟨4, 0⟩], b) by simp [termA, termI, callT])
    rw [HT.out]
    go_enter Tryz.func72, Tryz.ntmps72
    go_wp2_with fail
    refine (HE.out 4 0 _ (by repeat (first | with_reducible exact New.refl _ | with_reducible assumption | with_reducible refine New.drew ?_ | with_reducible refine New.drewN ?_ _ | with_reducible refine New.alloc ?_ _ | with_reducible refine New.setCell ?_ (by first | (simp; done) | (simp; omega) | omega) _ | with_reducible refine New.trans ?_ (by with_reducible assumption)))).mono ?_
    rintro e w2 ⟨rfl, hk2, h2⟩
    go_wp2_with fail
    refine bodyPost_ret (v := .tuple #[]) (by simp [results, Tryz.results72, go_sem]) rfl ?_
    exact ⟨rfl, hk2, h2⟩
  · have HT := Lib.hid (show termA p (xs, b) ⟨5, nm, nu⟩ = (xs ++ [⟨5, 0⟩], b) by simp [termA, termI, callT])
    rw [HT.out]
    go_enter Tryz.func72, Tryz.ntmps72
    go_wp2_with fail
    refine (HE.out 5 0 _ (by repeat (first | with_reducible exact New.refl _ | with_reducible assumption | with_reducible refine New.drew ?_ | with_reducible refine New.drewN ?_ _ | with_reducible refine New.alloc ?_ _ | with_reducible refine New.setCell ?_ (by first | (simp; done) | (simp; omega) | omega) _ | with_reducible refine New.trans ?_ (by with_reducible assumption)))).mono ?_
    rintro e w2 ⟨rfl, hk2, h2⟩
    go_wp2_with fail
    refine bodyPost_ret (v := .tuple #[]) (by simp [results, Tryz.results72, go_sem]) rfl ?_
    exact ⟨rfl, hk2, h2⟩
  · have HT := Lib.hid (show termA p (xs, b) ⟨6, nm, nu⟩ = (xs ++ [⟨6, 0⟩], b) by simp [termA, termI, callT])
    rw [HT.out]
    go_enter Tryz.func72, Tryz.ntmps72
    go_wp2_with fail
    refine (HE.out 6 0 _ (by repeat (first | with_reducible exact New.refl _ | with_reducible assumption | with_reducible refine New.drew ?_ | with_reducible refine New.drewN ?_ _ | with_reducible refine New.alloc ?_ _ | with_reducible refine New.setCell ?_ (by first | (simp; done) | (simp; omega) | omega) _ | with_reducible refine New.trans ?_ (by with_reducible assumption)))).mono ?_
    rintro e w2 ⟨rfl, hk2, h2⟩
    go_wp2_with fail
    refine bodyPost_ret (v := .tuple #[]) (by simp [results, Tryz.results72, go_sem]) rfl ?_
    exact ⟨rfl, hk2, h2⟩
  · have HT := Lib.hid (show termA p (xs, b) ⟨kd, nm, nu⟩ = (xs ++ [⟨7, b⟩], b + 1) by simp [termA, termI, callT, g1, g2, g3, g4, g5, g6]; omega)
    rw [HT.out]
    go_enter Tryz.func72, Tryz.ntmps72
    go_wp2_with fail
    refine (HE.out 7 b _ (by repeat (first | with_reducible exact New.refl _ | with_reducible assumption | with_reducible refine New.drew ?_ | with_reducible refine New.drewN ?_ _ | with_reducible refine New.alloc ?_ _ | with_reducible refine New.setCell ?_ (by first | (simp; done) | (simp; omega) | omega) _ | with_reducible refine New.trans ?_ (by with_reducible assumption)))).mono ?_
    rintro e w2 ⟨rfl, hk2, h2⟩
    obtain ⟨ya, yc, n2, K2, q1, q2⟩ := h2
    clear cO fO
    obtain ⟨c2, f2⟩ := K2.rules
    have hO2 := K2.lt
    have K6 := K2.set 11 (.int .i64 (b + 1))
    simp only [List.setIfInBounds_toArray, List.set_cons_succ, List.set_cons_zero] at K6
    have hne1 := blk_ne_ownK K2 q1 (by decide)
    have hne2 := blk_ne_ownK K2 q2 (by decide)
    go_wp2_with fail
    refine bodyPost_ret (v := .tuple #[]) (by simp [results, Tryz.results72, go_sem]) rfl ?_
    exact ⟨rfl, hk2.set K2 _, ya, yc, n2.setCell (p := ⟨O, 11, none⟩) hO _, K6, own_setK q1 hne1 _, own_setK q2 hne2 _⟩
end Go.Proofs.YtadoocadohdfcaaGreatDoor
