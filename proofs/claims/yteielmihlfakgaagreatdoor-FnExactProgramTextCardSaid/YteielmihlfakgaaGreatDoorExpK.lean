/- Contracts: tokens of expressions: the program. -/
import Derived.Test.YteielmihlfakgaaGreatDoorProg
import Derived.Test.YteielmihlfakgaaGreatDoorExpL
namespace Go.Proofs.YteielmihlfakgaaGreatDoor
open Go Go.Proofs Go.RowKit
set_option linter.unusedVariables false
set_option linter.unusedSimpArgs false
set_option maxRecDepth 100000
theorem takes_k {k : Int} : (takes k = 0 ↔ k = 1 ∨ k = 2 ∨ k = 3) := by
  unfold takes; split
  · simp; omega
  · split <;> simp <;> omega
theorem iWrite_any (t : ETerm) (av : Value) (L : List VT) (w : World) (hk : KW w) (hp : PW w) (ha : RdW w av L) (hL : (L.length : Int) = takes t.kind) (ht : termE t = true) (hs : ∀ v ∈ L, v.toks.length ≤ 5000) :
    Calls Tryz.prog 142 #[.agg #[.int .i64 t.kind, .string t.name, .int .i64 t.num], av] w (RetWr w (applyV t (L.getD 0 zV) (L.getD 1 zV)) t.kind) := by
  obtain ⟨h1, h2, _, n0, n1⟩ := term_bd ht
  obtain ⟨k, nm, n⟩ := t
  dsimp only at *
  rcases (by omega : k = 1 ∨ k = 2 ∨ k = 3 ∨ k = 4 ∨ k = 5 ∨ k = 6 ∨ 7 ≤ k) with rfl | rfl | rfl | rfl | rfl | rfl | h7
  · exact iWriteName_any nm n av w
  · exact iWriteTrue_any nm n av w
  · exact iWriteFalse_any nm n av w
  · have hl : L.length = 1 := by have : takes 4 = 1 := by decide
                                 omega
    obtain ⟨A, rfl⟩ := List.length_eq_one_iff.1 hl
    exact iWriteNot_any A nm n av w ha (hs A (by simp))
  · have hl : L.length = 2 := by have : takes 5 = 2 := by decide
                                 omega
    obtain ⟨A, B, rfl⟩ : ∃ A B, L = [A, B] := by match L, hl with | [A, B], _ => exact ⟨A, B, rfl⟩
    exact iWriteAnd_any A B nm n av w ha (hs A (by simp)) (hs B (by simp))
  · have hl : L.length = 2 := by have : takes 6 = 2 := by decide
                                 omega
    obtain ⟨A, B, rfl⟩ : ∃ A B, L = [A, B] := by match L, hl with | [A, B], _ => exact ⟨A, B, rfl⟩
    exact iWriteOr_any A B nm n av w ha (hs A (by simp)) (hs B (by simp))
  · have hb := takes_bd k
    have h0 : takes k ≠ 0 := fun h => by have := takes_k.1 h; omega
    have h := iWriteBlk_any k nm n L av w h7 h2 n0 n1 hk hp ha (by omega) hs
    have e : applyV ⟨k, nm, n⟩ (L.getD 0 zV) (L.getD 1 zV) = [kwOf k, cOp] ++ argT L L.length ++ numT ⟨k, nm, n⟩ ++ [cCl] := by
      rw [argT_all (t := ⟨k, nm, n⟩) hL (by omega)]
      unfold applyV
      rw [if_neg (by dsimp only; omega), if_neg (by dsimp only; omega), if_neg (by dsimp only; omega), if_neg (by dsimp only; omega), if_neg (by dsimp only; omega), if_neg (by dsimp only; omega), blkV]
      simp
    rw [e]; exact h
theorem drop_getD (L : List VT) (m i : Nat) : (L.drop m).getD i zV = L.getD (m + i) zV := by
  rw [List.getD_eq_getElem?_getD, List.getD_eq_getElem?_getD, List.getElem?_drop]
/-- The stack, nil or in a block. -/
def StI (w : World) (v : Value) (L : List VT) : Prop := (v = .slice none 0 0 ∧ L = []) ∨ ∃ b cap, v = .slice (some ⟨b, 0, none⟩) L.length cap ∧ RdW w v L
theorem StI.new {w w' : World} {v : Value} {L : List VT} (h : StI w v L) (hn : New w w') : StI w' v L := by
  rcases h with h | ⟨b, cap, h1, h2⟩
  · exact .inl h
  · exact .inr ⟨b, cap, h1, h2.new hn⟩
theorem OwnW.st {T : TypeId} {base : Nat} {w : World} {v : Value} {L : List VT} (h : OwnW T base w v L) (hL : L ≠ []) : StI w v L := by
  obtain ⟨ps, h1, h2⟩ := id h
  rcases h2.2 with ⟨_, hn⟩ | ⟨g, cap, cur, rfl, _⟩
  · exact absurd (List.eq_nil_of_length_eq_zero (by rw [← h1.1]; exact hn)) hL
  · exact .inr ⟨g, cap, by rw [h1.1], h.rd⟩
theorem stV_at {L : List VT} {t : ETerm} {f : Nat} (hf : frV L t = f) : stV L t = L.take f ++ [⟨applyV t ((L.drop f).getD 0 zV) ((L.drop f).getD 1 zV), t.kind⟩] := by
  subst hf
  rw [stV, valV, drop_getD, drop_getD]; rfl
theorem expV_len (ts : List ETerm) : ∀ k, k ≤ ts.length → (expV ts k).length ≤ k
  | 0, _ => by simp [expV]
  | k + 1, hk => by
    have ih := expV_len ts k (by omega)
    rw [expV_next (by omega), stV, List.length_append, List.length_take, List.length_singleton, frV]; omega
theorem RdX.setS {w : World} {v : Value} {T : List ByteArray} {q o : Nat} {s0 : Value} {z : Int} {E : TypeId} (h : RdX w v T) (hK : Blk w q #[s0, .int .i64 z] E) (u : Value) : RdX (w.setCell ⟨q, o, none⟩ u) v T := by
  obtain ⟨xs, h1, a, cap, rfl, hm, h0, hc⟩ := h
  refine ⟨xs, h1, a, cap, rfl, hm, h0, fun j u' hu => ?_⟩
  obtain ⟨b, off, ha, hlt, hcell⟩ := hc j u' hu
  have hne : b ≠ q := by
    intro hb
    cases xs with
    | nil => simp at hu
    | cons x xs =>
      obtain ⟨b', off', ha', _, hc1⟩ := hc 1 (.string x.text) rfl
      rw [ha] at ha'
      cases ha'
      rw [hb, hK.rules.1] at hc1
      rcases off with _ | off
      · simp at hc1
      · simp at hc1
  refine ⟨b, off, ha, by rw [World.size_setCell]; exact hlt, ?_⟩
  rw [← hcell]
  exact World.cell?_of_block (by first | exact Below.heap_setCell _ _ _ _ hne | exact Below.heap_setCell _ _ ⟨q, o, none⟩ _ (by show b ≠ q; exact hne))
set_option maxHeartbeats 4000000 in
theorem iExprTokens_any (v : Value) (ts : List ETerm) (w : World) (hk : KW w) (hp : PW w) (hv : RdT w v ts) (ho : okH ts = true) :
    Calls Tryz.prog 105 #[v] w (RetTk w (exprT ts)) := by
  obtain ⟨R, hr, h1, hl⟩ := okH_run ho
  have HAT := Lib.hid (fun k (h : k < ts.length) => exp_at hr h)
  have HTT := Lib.hid (fun k (h : k ≤ ts.length) => exp_tot hr k h)
  have hend := (exprT_facts ho).2.2
  obtain ⟨a, cap, rfl, hm, HC⟩ := Rd.flat encTerm_len (by omega) hv
  have HK := Lib.hid hk
  have HP := Lib.hid hp
  clear hv ho hr hk hp
  go_enter Tryz.func105, Tryz.ntmps105
  go_wp2_with fail
  go_loopw [3, 10] (fun st i wr => ∃ j : Nat, j ≤ ts.length ∧ i = .int .i64 j ∧ New w wr ∧ StI wr st (expV ts j)) (fun _ i _ => ts.length - (intOf i).toNat)
  case atStart => exact ⟨0, Nat.zero_le _, rfl, New.refl w, .inl ⟨rfl, rfl⟩⟩
  case round =>
    obtain ⟨j, hj, rfl, hN, hst⟩ := hrel
    have hNz := hN.size
    by_cases hlt : j < ts.length
    · obtain ⟨b, off, rfl, hbl, hx⟩ := HC.out j hlt
      have x0 : wr.cell? ⟨b, off + j * 3, none⟩ = some (.int .i64 ts[j].kind) := (hN.cell hbl).trans (hx 0 _ (by omega) rfl)
      have x1 : wr.cell? ⟨b, off + j * 3 + 1, none⟩ = some (.string ts[j].name) := (hN.cell hbl).trans (hx 1 _ (by omega) rfl)
      have x2 : wr.cell? ⟨b, off + j * 3 + 2, none⟩ = some (.int .i64 ts[j].num) := (hN.cell hbl).trans (hx 2 _ (by omega) rfl)
      clear hx
      have hbr : b < wr.heap.size := by omega
      obtain ⟨ht, htk⟩ := HAT.out j hlt
      have HX := Lib.hid (expV_next hlt)
      have htot := HTT.out j hj
      have hT6 : ∀ v ∈ expV ts j, v.toks.length ≤ 5000 := fun v hv => by have := tot_mem hv; omega
      have hll := expV_len ts j hj
      generalize ts[j] = t at x0 x1 x2 ht htk HX
      generalize expV ts j = L at hst HX htk hT6 hll htot
      have hb := takes_bd t.kind
      obtain ⟨f, hf⟩ : ∃ f : Nat, frV L t = f := ⟨_, rfl⟩
      have hfl : f ≤ L.length ∧ (L.length : Int) - takes t.kind = f := by rw [frV] at hf; omega
      have HS := Lib.hid (stV_at hf)
      have hdl : ((L.drop f).length : Int) = takes t.kind := by rw [List.length_drop]; omega
      have HW := Lib.hid (fun (av : Value) (w0 : World) (n : New w w0) (ha : RdW w0 av (L.drop f)) => iWrite_any t av (L.drop f) w0 (HK.out.new n) (HP.out.new n) ha hdl ht (fun v hv => hT6 v (List.mem_of_mem_drop hv)))
      have HTK := Lib.hid (fun (w0 : World) => iArguments_any t.kind w0)
      clear hf ht hdl htk hT6 htot
      generalize applyV t ((L.drop f).getD 0 zV) ((L.drop f).getD 1 zV) = TT at HS HW
      obtain ⟨hf1, hf2⟩ := hfl
      generalize takes t.kind = tk at *
      obtain ⟨k, nm, n⟩ := t
      dsimp only at *
      rcases hst with ⟨rfl, hL0⟩ | ⟨g, sc, rfl, hrd⟩
      · have hL1 : L.length = 0 := by rw [hL0]; rfl
        obtain rfl : f = 0 := by omega
        obtain rfl : tk = 0 := by omega
        have hd0 : L.drop 0 = [] := by rw [hL0]; rfl
        have hd1 : L.take 0 = [] := rfl
        rw [hd0] at HW
        have HD0 := Lib.hid hd0
        clear hL0 hd0 hf2 hL1
        go_wp2_with (first | (go_at_call 126; refine (HTK.out _).mono ?_; rintro e _ ⟨rfl, rfl⟩))
        refine RG.wp_facts [fun X _ => X = .agg #[.int .i64 k, .string nm, .int .i64 n], fun X _ => X = .slice none 0 0, fun X _ => X = .int .i64 0, fun X W' => RdW W' X ([] : List VT), fun X W' => ∃ q c, X = .agg #[.slice q TT.length c, .int .i64 k] ∧ RdX W' (.slice q TT.length c) TT, fun X W' => ∃ q, X = .pointer (some ⟨q, 0, none⟩) ∧ wr.heap.size + 1 ≤ q ∧ Blk W' q #[.slice none 0 0, .int .i64 0] 175] (by kernel_rfl) (by kernel_rfl) ⟨RG.stable_eq _, RG.stable_eq _, RG.stable_eq _, fun X w0 w1 hn k23 => k23.new hn, fun X w0 w1 hn ⟨a24, c24, t24, k24⟩ => ⟨a24, c24, t24, k24.new hn⟩, fun X w0 w1 hn ⟨q7, t7, l7, k7⟩ => ⟨q7, t7, l7, k7.new hn⟩, trivial⟩ ?_ ?_
        · refine ⟨?_, ?_, ?_, ?_, ?_, ?_, trivial⟩
          · intro a w9 hw ho hk
            refine .inl ⟨by rfl, ?_⟩
            have t2 := ho 5 rfl
            dsimp at t2
            try with_reducible replace hw := New.undrawN hw
            try with_reducible replace hw := New.undraw hw
            obtain ⟨c, f'⟩ := hw.rules
            go_simp
            exact New.refl _
          · intro a w9 hw ho hk
            refine .inl ⟨by rfl, ?_⟩
            have t2 := ho 3 rfl
            dsimp at t2
            try with_reducible replace hw := New.undrawN hw
            try with_reducible replace hw := New.undraw hw
            obtain ⟨c, f'⟩ := hw.rules
            go_simp
            exact New.refl _
          · intro a w9 hw ho hk
            refine .inl ⟨by rfl, ?_⟩
            have t2 := ho 6 rfl
            dsimp at t2
            try with_reducible replace hw := New.undrawN hw
            try with_reducible replace hw := New.undraw hw
            obtain ⟨c, f'⟩ := hw.rules
            go_simp
            exact New.refl _
          · intro a w9 hw ho hk
            refine .inl ⟨by rfl, ?_⟩
            have t21 : a.tmps[21]?.getD undef = .slice none 0 0 := hk 1 21 (by kernel_rfl) rfl
            have t22 : a.tmps[22]?.getD undef = .int .i64 0 := hk 2 22 (by kernel_rfl) rfl
            go_simp
            first | exact ⟨New.refl _, _, rfl, rdW_nil _⟩ | exact ⟨New.refl _, rdW_nil _⟩
          · intro a w9 hw ho hk
            refine .inl ⟨by rfl, ?_⟩
            have t20 : a.tmps[20]?.getD undef = .agg #[.int .i64 k, .string nm, .int .i64 n] := hk 0 20 (by kernel_rfl) rfl
            obtain k23 : RdW w9 (a.tmps[23]?.getD undef) ([] : List VT) := hk 3 23 (by kernel_rfl) rfl
            go_simp
            refine (HW.out _ _ (New.trans (show New w _ by exact (by repeat (first | with_reducible exact New.refl _ | with_reducible assumption | with_reducible refine New.drew ?_ | with_reducible refine New.drewN ?_ _ | with_reducible refine New.alloc ?_ _ | with_reducible refine New.setCell ?_ (by first | (simp; done) | (simp; omega) | omega) _ | with_reducible refine New.trans ?_ (by with_reducible assumption)))) hw) k23).mono ?_; rintro e w2 ⟨q, c, rfl, hb, o⟩
            first | exact ⟨hb, _, rfl, _, _, rfl, o⟩ | exact ⟨hb, _, _, by simp, o⟩
          · intro a w9 hw ho hk
            refine .inl ⟨by rfl, ?_⟩
            have hws := hw.size; simp only [World.size_alloc, World.size_setCell] at hws; go_simp; first | exact ⟨(New.refl _).alloc _, _, rfl, _, rfl, hws, Blk.alloc_at rfl⟩ | exact ⟨(New.refl _).alloc _, _, by simp, hws, Blk.alloc_at rfl⟩
        intro w3 b3 x20 h20 x21 h21 x22 h22 x23 k23 x24 ⟨a24, c24, t24, k24⟩ x7 ⟨q7, t7, l7, k7⟩
        subst h20 h21 h22 t24 t7
        try with_reducible replace b3 := New.undrawN b3
        try with_reducible replace b3 := New.undraw b3
        obtain ⟨c3, f3⟩ := b3.rules
        have z3 := b3.size
        try simp only [World.size_alloc, World.size_drew, World.heap_drewN, World.size_setCell] at z3
        simp only [RG.EndAll, List.nil_append, List.cons_append, List.length_cons, List.length_nil, Nat.zero_add, Nat.reduceAdd, List.take_succ_cons, List.take_zero, List.drop_succ_cons, List.drop_zero, RG.putAll, Act.put, List.setIfInBounds_toArray, List.set_cons_succ, List.set_cons_zero]
        have lt7 := k7.lt
        obtain ⟨c7, f7⟩ := k7.rules
        go_wp2_with fail
        have N4 : New w ((w3.setCell ⟨q7, 0, none⟩ (.slice a24 TT.length c24)).setCell ⟨q7, 1, none⟩ (.int .i64 k)) := by exact (by repeat (first | with_reducible exact New.refl _ | with_reducible assumption | with_reducible refine New.drew ?_ | with_reducible refine New.drewN ?_ _ | with_reducible refine New.alloc ?_ _ | with_reducible refine New.setCell ?_ (by first | (simp; done) | (simp; omega) | omega) _ | with_reducible refine New.trans ?_ (by with_reducible assumption)))
        have K4 := (k7.set 0 (.slice a24 TT.length c24)).set 1 (.int .i64 k)
        have N34 : New wr ((w3.setCell ⟨q7, 0, none⟩ (.slice a24 TT.length c24)).setCell ⟨q7, 1, none⟩ (.int .i64 k)) := by exact (by repeat (first | with_reducible exact New.refl _ | with_reducible assumption | with_reducible refine New.drew ?_ | with_reducible refine New.drewN ?_ _ | with_reducible refine New.alloc ?_ _ | with_reducible refine New.setCell ?_ (by first | (simp; done) | (simp; omega) | omega) _ | with_reducible refine New.trans ?_ (by with_reducible assumption)))
        simp only [List.setIfInBounds_toArray, List.set_cons_succ, List.set_cons_zero] at K4
        have k4 := (k24.setS (o := 0) k7 (.slice a24 TT.length c24)).setS (o := 1) (k7.set 0 (.slice a24 TT.length c24)) (.int .i64 k)
        generalize ((w3.setCell ⟨q7, 0, none⟩ (.slice a24 TT.length c24)).setCell ⟨q7, 1, none⟩ (.int .i64 k)) = w4 at N4 K4 N34 k4 ⊢
        clear c3 f3 c7 f7 k7 k24 k23 b3
        have lt4 := K4.lt
        obtain ⟨c4, f4⟩ := K4.rules
        refine RG.wp_facts [fun X _ => X = .slice none 0 0, fun X _ => X = .int .i64 0, fun X _ => X = .int .i64 0, fun X _ => X = .slice none 0 0, fun X _ => X = .agg #[.slice a24 TT.length c24, .int .i64 k], fun X W' => ∃ q, X = .slice (some ⟨q, 0, none⟩) 1 1 ∧ Blk W' q #[.slice a24 TT.length c24, .int .i64 k] 175] (by kernel_rfl) (by kernel_rfl) ⟨RG.stable_eq _, RG.stable_eq _, RG.stable_eq _, RG.stable_eq _, RG.stable_eq _, fun X w0 w1 hn ⟨q30, t30, k30⟩ => ⟨q30, t30, k30.new hn⟩, trivial⟩ ?_ ?_
        · refine ⟨?_, ?_, ?_, ?_, ?_, ?_, trivial⟩
          · intro a w9 hw ho hk
            refine .inl ⟨by rfl, ?_⟩
            have t2 := ho 3 rfl
            dsimp at t2
            try with_reducible replace hw := New.undrawN hw
            try with_reducible replace hw := New.undraw hw
            obtain ⟨c, f'⟩ := hw.rules
            go_simp
            exact New.refl _
          · intro a w9 hw ho hk
            refine .inl ⟨by rfl, ?_⟩
            have t2 := ho 6 rfl
            dsimp at t2
            try with_reducible replace hw := New.undrawN hw
            try with_reducible replace hw := New.undraw hw
            obtain ⟨c, f'⟩ := hw.rules
            go_simp
            exact New.refl _
          · intro a w9 hw ho hk
            refine .inl ⟨by rfl, ?_⟩
            have t2 := ho 6 rfl
            dsimp at t2
            try with_reducible replace hw := New.undrawN hw
            try with_reducible replace hw := New.undraw hw
            obtain ⟨c, f'⟩ := hw.rules
            go_simp
            exact New.refl _
          · intro a w9 hw ho hk
            refine .inl ⟨by rfl, ?_⟩
            have t25 : a.tmps[25]?.getD undef = .slice none 0 0 := hk 0 25 (by kernel_rfl) rfl
            have t26 : a.tmps[26]?.getD undef = .int .i64 0 := hk 1 26 (by kernel_rfl) rfl
            have t27 : a.tmps[27]?.getD undef = .int .i64 0 := hk 2 27 (by kernel_rfl) rfl
            go_simp
            exact New.refl _
          · intro a w9 hw ho hk
            refine .inl ⟨by rfl, ?_⟩
            have t2 := ho 7 rfl
            dsimp at t2
            try with_reducible replace hw := New.undrawN hw
            try with_reducible replace hw := New.undraw hw
            obtain ⟨c, f'⟩ := hw.rules
            go_simp
            exact New.refl _
          · intro a w9 hw ho hk
            refine .inl ⟨by rfl, ?_⟩
            have t29 : a.tmps[29]?.getD undef = .agg #[.slice a24 TT.length c24, .int .i64 k] := hk 4 29 (by kernel_rfl) rfl
            go_simp; first | exact ⟨(New.refl _).alloc _, _, rfl, _, rfl, Blk.alloc_at rfl⟩ | exact ⟨(New.refl _).alloc _, _, by simp, Blk.alloc_at rfl⟩
        intro w5 b5 x25 h25 x26 h26 x27 h27 x28 h28 x29 h29 x30 ⟨q30, t30, k30⟩
        subst h25 h26 h27 h28 h29 t30
        try with_reducible replace b5 := New.undrawN b5
        try with_reducible replace b5 := New.undraw b5
        obtain ⟨c5, f5⟩ := b5.rules
        have z5 := b5.size
        try simp only [World.size_alloc, World.size_drew, World.heap_drewN, World.size_setCell] at z5
        simp only [RG.EndAll, List.nil_append, List.cons_append, List.length_cons, List.length_nil, Nat.zero_add, Nat.reduceAdd, List.take_succ_cons, List.take_zero, List.drop_succ_cons, List.drop_zero, RG.putAll, Act.put, List.setIfInBounds_toArray, List.set_cons_succ, List.set_cons_zero]
        go_wp2_with (at_builtin; refine wpList_append_W rfl _ _ rfl none 0 (L.take 0) rfl (rdW_nil _) q30 _ k TT _ rfl k30 (k4.new b5) (by rw [List.length_take]; omega) ?_; intro va wa hoa hna)
        go_roundw
        case rel => exact ⟨j + 1, by omega, by go_num, (N4.trans b5).trans hna, by rw [HX.out, HS.out]; exact hoa.st (by simp)⟩
        case measure => simp [intOf]; omega
      · have HRD := Lib.hid hrd
        obtain ⟨_, _, e9, hm9, hcp, _, _⟩ := hrd.open
        cases e9
        clear hrd
        have hfc : f ≤ sc := by omega
        go_wp2_with (first | (go_at_call 126; refine (HTK.out _).mono ?_; rintro e _ ⟨rfl, rfl⟩))
        refine RG.wp_facts [fun X _ => X = .agg #[.int .i64 k, .string nm, .int .i64 n], fun X _ => X = .slice (some ⟨g, 0, none⟩) L.length sc, fun X _ => X = .int .i64 (f : Nat), fun X W' => RdW W' X (L.drop f), fun X W' => ∃ q c, X = .agg #[.slice q TT.length c, .int .i64 k] ∧ RdX W' (.slice q TT.length c) TT, fun X W' => ∃ q, X = .pointer (some ⟨q, 0, none⟩) ∧ wr.heap.size + 1 ≤ q ∧ Blk W' q #[.slice none 0 0, .int .i64 0] 175] (by kernel_rfl) (by kernel_rfl) ⟨RG.stable_eq _, RG.stable_eq _, RG.stable_eq _, fun X w0 w1 hn k23 => k23.new hn, fun X w0 w1 hn ⟨a24, c24, t24, k24⟩ => ⟨a24, c24, t24, k24.new hn⟩, fun X w0 w1 hn ⟨q7, t7, l7, k7⟩ => ⟨q7, t7, l7, k7.new hn⟩, trivial⟩ ?_ ?_
        · refine ⟨?_, ?_, ?_, ?_, ?_, ?_, trivial⟩
          · intro a w9 hw ho hk
            refine .inl ⟨by rfl, ?_⟩
            have t2 := ho 5 rfl
            dsimp at t2
            try with_reducible replace hw := New.undrawN hw
            try with_reducible replace hw := New.undraw hw
            obtain ⟨c, f'⟩ := hw.rules
            go_simp
            exact New.refl _
          · intro a w9 hw ho hk
            refine .inl ⟨by rfl, ?_⟩
            have t2 := ho 3 rfl
            dsimp at t2
            try with_reducible replace hw := New.undrawN hw
            try with_reducible replace hw := New.undraw hw
            obtain ⟨c, f'⟩ := hw.rules
            go_simp
            exact New.refl _
          · intro a w9 hw ho hk
            refine .inl ⟨by rfl, ?_⟩
            have t2 := ho 6 rfl
            dsimp at t2
            try with_reducible replace hw := New.undrawN hw
            try with_reducible replace hw := New.undraw hw
            obtain ⟨c, f'⟩ := hw.rules
            go_simp
            exact New.refl _
          · intro a w9 hw ho hk
            refine .inl ⟨by rfl, ?_⟩
            have t21 : a.tmps[21]?.getD undef = .slice (some ⟨g, 0, none⟩) L.length sc := hk 1 21 (by kernel_rfl) rfl
            have t22 : a.tmps[22]?.getD undef = .int .i64 (f : Nat) := hk 2 22 (by kernel_rfl) rfl
            go_simp
            first | exact ⟨New.refl _, _, rfl, RdW.drop0 (HRD.out.new (New.trans (show New wr _ by exact (by repeat (first | with_reducible exact New.refl _ | with_reducible assumption | with_reducible refine New.drew ?_ | with_reducible refine New.drewN ?_ _ | with_reducible refine New.alloc ?_ _ | with_reducible refine New.setCell ?_ (by first | (simp; done) | (simp; omega) | omega) _ | with_reducible refine New.trans ?_ (by with_reducible assumption)))) hw)) (by omega)⟩ | exact ⟨New.refl _, RdW.drop0 (HRD.out.new (New.trans (show New wr _ by exact (by repeat (first | with_reducible exact New.refl _ | with_reducible assumption | with_reducible refine New.drew ?_ | with_reducible refine New.drewN ?_ _ | with_reducible refine New.alloc ?_ _ | with_reducible refine New.setCell ?_ (by first | (simp; done) | (simp; omega) | omega) _ | with_reducible refine New.trans ?_ (by with_reducible assumption)))) hw)) (by omega)⟩
          · intro a w9 hw ho hk
            refine .inl ⟨by rfl, ?_⟩
            have t20 : a.tmps[20]?.getD undef = .agg #[.int .i64 k, .string nm, .int .i64 n] := hk 0 20 (by kernel_rfl) rfl
            obtain k23 : RdW w9 (a.tmps[23]?.getD undef) (L.drop f) := hk 3 23 (by kernel_rfl) rfl
            go_simp
            refine (HW.out _ _ (New.trans (show New w _ by exact (by repeat (first | with_reducible exact New.refl _ | with_reducible assumption | with_reducible refine New.drew ?_ | with_reducible refine New.drewN ?_ _ | with_reducible refine New.alloc ?_ _ | with_reducible refine New.setCell ?_ (by first | (simp; done) | (simp; omega) | omega) _ | with_reducible refine New.trans ?_ (by with_reducible assumption)))) hw) k23).mono ?_; rintro e w2 ⟨q, c, rfl, hb, o⟩
            first | exact ⟨hb, _, rfl, _, _, rfl, o⟩ | exact ⟨hb, _, _, by simp, o⟩
          · intro a w9 hw ho hk
            refine .inl ⟨by rfl, ?_⟩
            have hws := hw.size; simp only [World.size_alloc, World.size_setCell] at hws; go_simp; first | exact ⟨(New.refl _).alloc _, _, rfl, _, rfl, hws, Blk.alloc_at rfl⟩ | exact ⟨(New.refl _).alloc _, _, by simp, hws, Blk.alloc_at rfl⟩
        intro w3 b3 x20 h20 x21 h21 x22 h22 x23 k23 x24 ⟨a24, c24, t24, k24⟩ x7 ⟨q7, t7, l7, k7⟩
        subst h20 h21 h22 t24 t7
        try with_reducible replace b3 := New.undrawN b3
        try with_reducible replace b3 := New.undraw b3
        obtain ⟨c3, f3⟩ := b3.rules
        have z3 := b3.size
        try simp only [World.size_alloc, World.size_drew, World.heap_drewN, World.size_setCell] at z3
        simp only [RG.EndAll, List.nil_append, List.cons_append, List.length_cons, List.length_nil, Nat.zero_add, Nat.reduceAdd, List.take_succ_cons, List.take_zero, List.drop_succ_cons, List.drop_zero, RG.putAll, Act.put, List.setIfInBounds_toArray, List.set_cons_succ, List.set_cons_zero]
        have lt7 := k7.lt
        obtain ⟨c7, f7⟩ := k7.rules
        go_wp2_with fail
        have N4 : New w ((w3.setCell ⟨q7, 0, none⟩ (.slice a24 TT.length c24)).setCell ⟨q7, 1, none⟩ (.int .i64 k)) := by exact (by repeat (first | with_reducible exact New.refl _ | with_reducible assumption | with_reducible refine New.drew ?_ | with_reducible refine New.drewN ?_ _ | with_reducible refine New.alloc ?_ _ | with_reducible refine New.setCell ?_ (by first | (simp; done) | (simp; omega) | omega) _ | with_reducible refine New.trans ?_ (by with_reducible assumption)))
        have K4 := (k7.set 0 (.slice a24 TT.length c24)).set 1 (.int .i64 k)
        have N34 : New wr ((w3.setCell ⟨q7, 0, none⟩ (.slice a24 TT.length c24)).setCell ⟨q7, 1, none⟩ (.int .i64 k)) := by exact (by repeat (first | with_reducible exact New.refl _ | with_reducible assumption | with_reducible refine New.drew ?_ | with_reducible refine New.drewN ?_ _ | with_reducible refine New.alloc ?_ _ | with_reducible refine New.setCell ?_ (by first | (simp; done) | (simp; omega) | omega) _ | with_reducible refine New.trans ?_ (by with_reducible assumption)))
        simp only [List.setIfInBounds_toArray, List.set_cons_succ, List.set_cons_zero] at K4
        have k4 := (k24.setS (o := 0) k7 (.slice a24 TT.length c24)).setS (o := 1) (k7.set 0 (.slice a24 TT.length c24)) (.int .i64 k)
        generalize ((w3.setCell ⟨q7, 0, none⟩ (.slice a24 TT.length c24)).setCell ⟨q7, 1, none⟩ (.int .i64 k)) = w4 at N4 K4 N34 k4 ⊢
        clear c3 f3 c7 f7 k7 k24 k23 b3
        have lt4 := K4.lt
        obtain ⟨c4, f4⟩ := K4.rules
        refine RG.wp_facts [fun X _ => X = .slice (some ⟨g, 0, none⟩) L.length sc, fun X _ => X = .int .i64 (f : Nat), fun X _ => X = .int .i64 (f : Nat), fun X _ => X = .slice (some ⟨g, 0, none⟩) f f, fun X _ => X = .agg #[.slice a24 TT.length c24, .int .i64 k], fun X W' => ∃ q, X = .slice (some ⟨q, 0, none⟩) 1 1 ∧ Blk W' q #[.slice a24 TT.length c24, .int .i64 k] 175] (by kernel_rfl) (by kernel_rfl) ⟨RG.stable_eq _, RG.stable_eq _, RG.stable_eq _, RG.stable_eq _, RG.stable_eq _, fun X w0 w1 hn ⟨q30, t30, k30⟩ => ⟨q30, t30, k30.new hn⟩, trivial⟩ ?_ ?_
        · refine ⟨?_, ?_, ?_, ?_, ?_, ?_, trivial⟩
          · intro a w9 hw ho hk
            refine .inl ⟨by rfl, ?_⟩
            have t2 := ho 3 rfl
            dsimp at t2
            try with_reducible replace hw := New.undrawN hw
            try with_reducible replace hw := New.undraw hw
            obtain ⟨c, f'⟩ := hw.rules
            go_simp
            exact New.refl _
          · intro a w9 hw ho hk
            refine .inl ⟨by rfl, ?_⟩
            have t2 := ho 6 rfl
            dsimp at t2
            try with_reducible replace hw := New.undrawN hw
            try with_reducible replace hw := New.undraw hw
            obtain ⟨c, f'⟩ := hw.rules
            go_simp
            exact New.refl _
          · intro a w9 hw ho hk
            refine .inl ⟨by rfl, ?_⟩
            have t2 := ho 6 rfl
            dsimp at t2
            try with_reducible replace hw := New.undrawN hw
            try with_reducible replace hw := New.undraw hw
            obtain ⟨c, f'⟩ := hw.rules
            go_simp
            exact New.refl _
          · intro a w9 hw ho hk
            refine .inl ⟨by rfl, ?_⟩
            have t25 : a.tmps[25]?.getD undef = .slice (some ⟨g, 0, none⟩) L.length sc := hk 0 25 (by kernel_rfl) rfl
            have t26 : a.tmps[26]?.getD undef = .int .i64 (f : Nat) := hk 1 26 (by kernel_rfl) rfl
            have t27 : a.tmps[27]?.getD undef = .int .i64 (f : Nat) := hk 2 27 (by kernel_rfl) rfl
            go_simp
            exact New.refl _
          · intro a w9 hw ho hk
            refine .inl ⟨by rfl, ?_⟩
            have t2 := ho 7 rfl
            dsimp at t2
            try with_reducible replace hw := New.undrawN hw
            try with_reducible replace hw := New.undraw hw
            obtain ⟨c, f'⟩ := hw.rules
            go_simp
            exact New.refl _
          · intro a w9 hw ho hk
            refine .inl ⟨by rfl, ?_⟩
            have t29 : a.tmps[29]?.getD undef = .agg #[.slice a24 TT.length c24, .int .i64 k] := hk 4 29 (by kernel_rfl) rfl
            go_simp; first | exact ⟨(New.refl _).alloc _, _, rfl, _, rfl, Blk.alloc_at rfl⟩ | exact ⟨(New.refl _).alloc _, _, by simp, Blk.alloc_at rfl⟩
        intro w5 b5 x25 h25 x26 h26 x27 h27 x28 h28 x29 h29 x30 ⟨q30, t30, k30⟩
        subst h25 h26 h27 h28 h29 t30
        try with_reducible replace b5 := New.undrawN b5
        try with_reducible replace b5 := New.undraw b5
        obtain ⟨c5, f5⟩ := b5.rules
        have z5 := b5.size
        try simp only [World.size_alloc, World.size_drew, World.heap_drewN, World.size_setCell] at z5
        simp only [RG.EndAll, List.nil_append, List.cons_append, List.length_cons, List.length_nil, Nat.zero_add, Nat.reduceAdd, List.take_succ_cons, List.take_zero, List.drop_succ_cons, List.drop_zero, RG.putAll, Act.put, List.setIfInBounds_toArray, List.set_cons_succ, List.set_cons_zero]
        go_wp2_with (at_builtin; refine wpList_append_W rfl _ _ rfl (some ⟨g, 0, none⟩) f (L.take f) rfl (RdW.take (HRD.out.new (N34.trans b5)) hf1 (Nat.le_refl f)) q30 _ k TT _ rfl k30 (k4.new b5) (by rw [List.length_take]; omega) ?_; intro va wa hoa hna)
        go_roundw
        case rel => exact ⟨j + 1, by omega, by go_num, (N4.trans b5).trans hna, by rw [HX.out, HS.out]; exact hoa.st (by simp)⟩
        case measure => simp [intOf]; omega
    · obtain rfl : j = ts.length := by omega
      have hE : exprT ts = ((expV ts ts.length).getD 0 zV).toks := rfl
      generalize expV ts ts.length = L at hst hend hE
      rcases hst with ⟨_, rfl⟩ | ⟨g, sc, rfl, hrd⟩
      · simp at hend
      · obtain ⟨_, _, e9, _, _, _, HA⟩ := hrd.open
        cases e9
        obtain ⟨g', off', sa, sd, e8, hg, y0, y1, hT⟩ := HA.out 0 (by omega)
        cases e8
        have HE := Lib.hid (show exprT ts = L[0].toks by rw [hE]; simp [List.getD, show 0 < L.length by omega])
        rw [hend] at *
        simp only [Nat.zero_mul, Nat.add_zero, Nat.zero_add] at y0 y1
        have RT := Lib.hid hT
        clear hT HA hrd hE
        generalize L[0].toks = TT at *
        go_wp2_with fail
        go_ret
        exact ⟨sa, sd, by rw [HE.out]; rfl, hN, by rw [HE.out]; exact RT.out⟩
end Go.Proofs.YteielmihlfakgaaGreatDoor
