/- Contracts: the program's compiling of a line, and of a program. -/
import Derived.Test.YtadoocadohdfcaaGreatDoorProg
import Derived.Test.YtadoocadohdfcaaGreatDoorCompE
import Derived.Test.YtadoocadohdfcaaGreatDoorRegionG
namespace Go.Proofs.YtadoocadohdfcaaGreatDoor
open Go Go.Proofs Go.RowKit
set_option linter.unusedVariables false
set_option linter.unusedSimpArgs false
set_option maxRecDepth 100000
theorem RetSt.app {w W0 : World} {O : Nat} {p : ProgD} {iv vv ov lv bv : Value} {xs ys : List EInstruction} {b c : Int} {e : Ending} {w' : World} (h : RetSt w W0 O p iv vv ov lv bv xs b e w') (h1 : xs = ys) (h2 : b = c) : RetSt w W0 O p iv vv ov lv bv ys c e w' := by subst h1 h2; exact h
set_option maxHeartbeats 4000000 in
theorem line_any (W0 : World) (O : Nat) (p : ProgD) (iv vv ov lv bv : Value) (xs : List EInstruction) (b : Int) (X : LineD) (lt : Value) (w : World) (hp : RdP W0 p iv vv ov lv) (hO : W0.heap.size ≤ O) (hl : xs.length ≤ 1900) (hb0 : 0 ≤ b) (hb : b ≤ 1900) (hx : X.terms.length ≤ 40) (ht : RdT W0 lt X.terms) (h : CompSt W0 O p iv vv ov lv bv xs b w) :
    Calls Tryz.prog 41 #[.pointer (some ⟨O, 0, none⟩), .agg #[.string X.target, lt]] w (RetSt w W0 O p iv vv ov lv bv (lineA p (xs, b) X).1 (lineA p (xs, b) X).2) := by
  have HP := Lib.hid hp
  obtain ⟨va, vc, rfl, _⟩ := id hp.vars
  obtain ⟨oa, oc, rfl, _⟩ := id hp.outs
  obtain ⟨ea, ec, rfl, hem, HE⟩ := Rd.flat encTerm_len (by omega) ht
  clear ht hp
  have hOr0 : O < w.heap.size := by obtain ⟨_, _, _, K, _⟩ := h; exact K.lt
  have HLEN := Lib.hid (termsA_len p)
  have HBDS := Lib.hid (fun ts => termsA_bd p ts (xs, b) hb0)
  have h0 := Lib.hid h
  go_enter Tryz.func41, Tryz.ntmps41
  go_wp2_with fail
  go_loopw [10] (fun i wr => ∃ j : Nat, j ≤ X.terms.length ∧ i = .int .i64 j ∧ Hid (CompSt W0 O p iv (.slice va p.vars.length vc) (.slice oa p.outputs.length oc) lv bv (termsA p (xs, b) (X.terms.take j)).1 (termsA p (xs, b) (X.terms.take j)).2 wr) ∧ Hid (KeptT (w.alloc (.cells #[.string X.target, .slice ea X.terms.length ec] 61)) wr)) (fun i _ => X.terms.length - (intOf i).toNat)
  case atStart => exact ⟨0, Nat.zero_le _, rfl, Lib.hid (h0.out.more (by repeat (first | with_reducible exact New.refl _ | with_reducible assumption | with_reducible refine New.drew ?_ | with_reducible refine New.drewN ?_ _ | with_reducible refine New.alloc ?_ _ | with_reducible refine New.setCell ?_ (by first | (simp; done) | (simp; omega) | omega) _ | with_reducible refine New.trans ?_ (by with_reducible assumption)))), Lib.hid (KeptT.refl _)⟩
  case round =>
    rename World => wr
    obtain ⟨j, hj, rfl, hS, hkt⟩ := hrel
    have KL := hkt.out w.heap.size _ _ (by decide) (by decide) (Blk.alloc_at rfl)
    obtain ⟨cL, fL⟩ := KL.rules
    have hLr := KL.lt
    have hnr : New W0 wr := by obtain ⟨_, _, hn, _⟩ := hS.out; exact hn
    obtain ⟨cn, fn⟩ := hnr.rules
    have hnz := hnr.size
    have hlen := HLEN.out (X.terms.take j) (xs, b)
    have hbds := HBDS.out (X.terms.take j)
    rw [List.length_take, Nat.min_eq_left hj] at hlen hbds
    by_cases hlt : j < X.terms.length
    · obtain ⟨b', off', rfl, hbl', hy⟩ := HE.out j hlt
      have y0 := hy 0 _ (by omega) rfl
      have y1 := hy 1 _ (by omega) rfl
      have y2 := hy 2 _ (by omega) rfl
      rw [Nat.add_zero] at y0
      replace hy := Lib.hid hy
      have hbw2 : b' < wr.heap.size := by omega
      have HST := Lib.hid (termsA_next p (xs, b) hlt)
      generalize termsA p (xs, b) (X.terms.take j) = S at hS hlen hbds HST
      obtain ⟨acc, bk⟩ := S
      dsimp only at hS hlen hbds
      generalize hT : X.terms[j] = T at y0 y1 y2 HST
      have HTm := Lib.hid (fun (w0 : World) (h1 : New wr w0) => (term_any W0 O p _ _ _ _ bv acc bk T w0 HP.out hO (by omega) (by omega) (by omega) (hS.out.more h1)).mono (fun e w' h => RetSt.pre h1 h))
      obtain ⟨kd, nm, nu⟩ := T
      dsimp only at y0 y1 y2
      go_wp2_with fail
      refine (HTm.out _ (by repeat (first | with_reducible exact New.refl _ | with_reducible assumption | with_reducible refine New.drew ?_ | with_reducible refine New.drewN ?_ _ | with_reducible refine New.alloc ?_ _ | with_reducible refine New.setCell ?_ (by first | (simp; done) | (simp; omega) | omega) _ | with_reducible refine New.trans ?_ (by with_reducible assumption)))).mono ?_
      rintro e w2 ⟨rfl, hk2, h2⟩
      go_wp2_with fail
      go_roundw
      case rel => exact ⟨j + 1, by omega, by go_num, Lib.hid (by rw [HST.out]; exact h2), Lib.hid (hkt.out.trans hk2)⟩
      case measure => simp [intOf]; omega
    · obtain rfl : j = X.terms.length := by omega
      rw [List.take_length] at hS hlen hbds
      have HIV := Lib.hid (fun (w0 : World) (h : New W0 w0) => iIdN_any X.target _ p.vars w0 (Rd.new HP.out.vars h))
      have HIO := Lib.hid (fun (w0 : World) (h : New W0 w0) => iIdN_any X.target _ p.outputs w0 (Rd.new HP.out.outs h))
      have HTG : tgtI p X.target = if 0 ≤ idS p.vars X.target then ⟨8, idS p.vars X.target⟩ else ⟨9, idS p.outputs X.target⟩ := rfl
      have HLA := Lib.hid (show lineA p (xs, b) X = ((termsA p (xs, b) X.terms).1 ++ [tgtI p X.target], (termsA p (xs, b) X.terms).2) from rfl)
      generalize termsA p (xs, b) X.terms = S at hS hlen hbds HLA
      obtain ⟨acc, bk⟩ := S
      dsimp only at hS hlen hbds HLA
      have HE8 := Lib.hid (fun (o q : Int) (w0 : World) (h1 : New wr w0) => (emit_any W0 O p _ _ _ _ bv acc bk o q w0 hO (by omega) (hS.out.more h1)).mono (fun e w' h => RetSt.pre h1 h))
      have hK : ∃ sa sc, Blk wr O #[.string p.name, iv, .slice va p.vars.length vc, .slice oa p.outputs.length oc, .string p.guard, lv, .int .i64 p.inputs.length, .int .i64 p.vars.length, .int .i64 p.outputs.length, bv, .slice sa acc.length sc, .int .i64 bk] 76 := by obtain ⟨sa, sc, _, K, _⟩ := hS.out; exact ⟨sa, sc, K⟩
      obtain ⟨sa, sc, K⟩ := hK
      obtain ⟨cO, fO⟩ := K.rules
      have hOr := K.lt
      have k2 : wr.cell? ⟨O, 2, none⟩ = some (.slice va p.vars.length vc) := by rw [cO]; rfl
      have k3 : wr.cell? ⟨O, 3, none⟩ = some (.slice oa p.outputs.length oc) := by rw [cO]; rfl
      have kt : wr.cell? ⟨w.heap.size, 0, none⟩ = some (.string X.target) := by rw [cL]; rfl
      have HKT : KeptT w wr := (KeptT.of_new ((New.refl w).alloc _)).trans hkt.out
      clear cO cL cn
      generalize idS p.vars X.target = qv at HIV HTG
      generalize idS p.outputs X.target = qo at HIO HTG
      generalize X.target = tg at HIV HIO kt HTG HLA
      go_wp2_with fail
      refine RG.wp_facts [fun X _ => X = .pointer (some ⟨O, 0, none⟩), fun X _ => X = .pointer (some ⟨O, 0, none⟩), fun X _ => X = .pointer (some ⟨O, 0, none⟩), fun X _ => X = .pointer (some ⟨O, 2, none⟩), fun X _ => X = .slice va p.vars.length vc, fun X _ => X = .pointer (some ⟨w.heap.size, 0, none⟩), fun X _ => X = .string tg, fun X _ => X = .int .i64 qv] (by kernel_rfl) (by kernel_rfl) ⟨RG.stable_eq _, RG.stable_eq _, RG.stable_eq _, RG.stable_eq _, RG.stable_eq _, RG.stable_eq _, RG.stable_eq _, RG.stable_eq _, trivial⟩ ?_ ?_
      · refine ⟨?_, ?_, ?_, ?_, ?_, ?_, ?_, ?_, trivial⟩
        · intro a w9 hw ho hk
          refine .inl ⟨by rfl, ?_⟩
          have t2 := ho 0 rfl
          dsimp at t2
          try with_reducible replace hw := New.undrawN hw
          try with_reducible replace hw := New.undraw hw
          obtain ⟨c, f'⟩ := hw.rules
          go_simp
          exact New.refl _
        · intro a w9 hw ho hk
          refine .inl ⟨by rfl, ?_⟩
          have t18 : a.tmps[18]?.getD undef = .pointer (some ⟨O, 0, none⟩) := hk 0 18 (by kernel_rfl) rfl
          go_simp
          exact New.refl _
        · intro a w9 hw ho hk
          refine .inl ⟨by rfl, ?_⟩
          have t19 : a.tmps[19]?.getD undef = .pointer (some ⟨O, 0, none⟩) := hk 1 19 (by kernel_rfl) rfl
          go_simp
          exact New.refl _
        · intro a w9 hw ho hk
          refine .inl ⟨by rfl, ?_⟩
          have t20 : a.tmps[20]?.getD undef = .pointer (some ⟨O, 0, none⟩) := hk 2 20 (by kernel_rfl) rfl
          go_simp
          exact New.refl _
        · intro a w9 hw ho hk
          refine .inl ⟨by rfl, ?_⟩
          have t21 : a.tmps[21]?.getD undef = .pointer (some ⟨O, 2, none⟩) := hk 3 21 (by kernel_rfl) rfl
          try with_reducible replace hw := New.undrawN hw
          try with_reducible replace hw := New.undraw hw
          obtain ⟨c, f'⟩ := hw.rules
          go_simp
          exact New.refl _
        · intro a w9 hw ho hk
          refine .inl ⟨by rfl, ?_⟩
          have t2 := ho 3 rfl
          dsimp at t2
          try with_reducible replace hw := New.undrawN hw
          try with_reducible replace hw := New.undraw hw
          obtain ⟨c, f'⟩ := hw.rules
          go_simp
          exact New.refl _
        · intro a w9 hw ho hk
          refine .inl ⟨by rfl, ?_⟩
          have t23 : a.tmps[23]?.getD undef = .pointer (some ⟨w.heap.size, 0, none⟩) := hk 5 23 (by kernel_rfl) rfl
          try with_reducible replace hw := New.undrawN hw
          try with_reducible replace hw := New.undraw hw
          obtain ⟨c, f'⟩ := hw.rules
          go_simp
          exact New.refl _
        · intro a w9 hw ho hk
          refine .inl ⟨by rfl, ?_⟩
          have t22 : a.tmps[22]?.getD undef = .slice va p.vars.length vc := hk 4 22 (by kernel_rfl) rfl
          have t24 : a.tmps[24]?.getD undef = .string tg := hk 6 24 (by kernel_rfl) rfl
          go_simp
          refine (HIV.out _ (hnr.trans hw)).mono ?_; rintro e w2 ⟨rfl, hb⟩
          first | exact ⟨hb, _, rfl, by simp⟩ | exact ⟨hb, by simp⟩
      intro w5 b5
      rintro _ rfl _ rfl _ rfl _ rfl _ rfl _ rfl _ rfl _ rfl
      try with_reducible replace b5 := New.undrawN b5
      try with_reducible replace b5 := New.undraw b5
      obtain ⟨c5, f5⟩ := b5.rules
      have z5 := b5.size
      try simp only [World.size_alloc, World.size_drew, World.heap_drewN, World.size_setCell] at z5
      have z5_0 : w.heap.size < w5.heap.size := by omega
      have z5_1 : O < w5.heap.size := by omega
      have k53 : w5.cell? ⟨O, 3, none⟩ = some (.slice oa p.outputs.length oc) := by rw [c5 _ _ hOr]; exact k3
      have k5t : w5.cell? ⟨w.heap.size, 0, none⟩ = some (.string tg) := by rw [c5 _ _ hLr]; exact kt
      simp only [RG.EndAll, List.nil_append, List.cons_append, List.length_cons, List.length_nil, Nat.zero_add, Nat.reduceAdd, List.take_succ_cons, List.take_zero, List.drop_succ_cons, List.drop_zero, RG.putAll, Act.put, List.setIfInBounds_toArray, List.set_cons_succ, List.set_cons_zero]
      by_cases hq : 0 ≤ qv
      · rw [if_pos hq] at HTG
        rw [HTG] at HLA
        clear HTG
        go_wp2_with fail
        refine (HE8.out 8 qv _ (by repeat (first | with_reducible exact New.refl _ | with_reducible assumption | with_reducible refine New.drew ?_ | with_reducible refine New.drewN ?_ _ | with_reducible refine New.alloc ?_ _ | with_reducible refine New.setCell ?_ (by first | (simp; done) | (simp; omega) | omega) _ | with_reducible refine New.trans ?_ (by with_reducible assumption)))).mono ?_
        rintro e w7 ⟨rfl, hk7, h7⟩
        go_wp2_with fail
        refine bodyPost_ret (v := .tuple #[]) (by simp [results, Tryz.results41, go_sem]) rfl ?_
        rw [HLA.out]
        exact ⟨rfl, HKT.trans hk7, h7⟩
      · rw [if_neg hq] at HTG
        rw [HTG] at HLA
        clear HTG
        have hn5 : New W0 w5 := hnr.trans b5
        go_wp2_with fail
        refine RG.wp_facts [fun X _ => X = .pointer (some ⟨O, 0, none⟩), fun X _ => X = .pointer (some ⟨O, 0, none⟩), fun X _ => X = .pointer (some ⟨O, 0, none⟩), fun X _ => X = .pointer (some ⟨O, 0, none⟩), fun X _ => X = .pointer (some ⟨O, 3, none⟩), fun X _ => X = .slice oa p.outputs.length oc, fun X _ => X = .pointer (some ⟨w.heap.size, 0, none⟩), fun X _ => X = .string tg, fun X _ => X = .int .i64 qo] (by kernel_rfl) (by kernel_rfl) ⟨RG.stable_eq _, RG.stable_eq _, RG.stable_eq _, RG.stable_eq _, RG.stable_eq _, RG.stable_eq _, RG.stable_eq _, RG.stable_eq _, RG.stable_eq _, trivial⟩ ?_ ?_
        · refine ⟨?_, ?_, ?_, ?_, ?_, ?_, ?_, ?_, ?_, trivial⟩
          · intro a w9 hw ho hk
            refine .inl ⟨by rfl, ?_⟩
            have t2 := ho 0 rfl
            dsimp at t2
            try with_reducible replace hw := New.undrawN hw
            try with_reducible replace hw := New.undraw hw
            obtain ⟨c, f'⟩ := hw.rules
            go_simp
            exact New.refl _
          · intro a w9 hw ho hk
            refine .inl ⟨by rfl, ?_⟩
            have t2 := ho 0 rfl
            dsimp at t2
            try with_reducible replace hw := New.undrawN hw
            try with_reducible replace hw := New.undraw hw
            obtain ⟨c, f'⟩ := hw.rules
            go_simp
            exact New.refl _
          · intro a w9 hw ho hk
            refine .inl ⟨by rfl, ?_⟩
            have t32 : a.tmps[32]?.getD undef = .pointer (some ⟨O, 0, none⟩) := hk 1 32 (by kernel_rfl) rfl
            go_simp
            exact New.refl _
          · intro a w9 hw ho hk
            refine .inl ⟨by rfl, ?_⟩
            have t33 : a.tmps[33]?.getD undef = .pointer (some ⟨O, 0, none⟩) := hk 2 33 (by kernel_rfl) rfl
            go_simp
            exact New.refl _
          · intro a w9 hw ho hk
            refine .inl ⟨by rfl, ?_⟩
            have t34 : a.tmps[34]?.getD undef = .pointer (some ⟨O, 0, none⟩) := hk 3 34 (by kernel_rfl) rfl
            go_simp
            exact New.refl _
          · intro a w9 hw ho hk
            refine .inl ⟨by rfl, ?_⟩
            have t35 : a.tmps[35]?.getD undef = .pointer (some ⟨O, 3, none⟩) := hk 4 35 (by kernel_rfl) rfl
            try with_reducible replace hw := New.undrawN hw
            try with_reducible replace hw := New.undraw hw
            obtain ⟨c, f'⟩ := hw.rules
            go_simp
            exact New.refl _
          · intro a w9 hw ho hk
            refine .inl ⟨by rfl, ?_⟩
            have t2 := ho 3 rfl
            dsimp at t2
            try with_reducible replace hw := New.undrawN hw
            try with_reducible replace hw := New.undraw hw
            obtain ⟨c, f'⟩ := hw.rules
            go_simp
            exact New.refl _
          · intro a w9 hw ho hk
            refine .inl ⟨by rfl, ?_⟩
            have t37 : a.tmps[37]?.getD undef = .pointer (some ⟨w.heap.size, 0, none⟩) := hk 6 37 (by kernel_rfl) rfl
            try with_reducible replace hw := New.undrawN hw
            try with_reducible replace hw := New.undraw hw
            obtain ⟨c, f'⟩ := hw.rules
            go_simp
            exact New.refl _
          · intro a w9 hw ho hk
            refine .inl ⟨by rfl, ?_⟩
            have t36 : a.tmps[36]?.getD undef = .slice oa p.outputs.length oc := hk 5 36 (by kernel_rfl) rfl
            have t38 : a.tmps[38]?.getD undef = .string tg := hk 7 38 (by kernel_rfl) rfl
            go_simp
            refine (HIO.out _ (hn5.trans hw)).mono ?_; rintro e w2 ⟨rfl, hb⟩
            first | exact ⟨hb, _, rfl, by simp⟩ | exact ⟨hb, by simp⟩
        intro w6 b6
        rintro _ rfl _ rfl _ rfl _ rfl _ rfl _ rfl _ rfl _ rfl _ rfl
        try with_reducible replace b6 := New.undrawN b6
        try with_reducible replace b6 := New.undraw b6
        obtain ⟨c6, f6⟩ := b6.rules
        have z6 := b6.size
        try simp only [World.size_alloc, World.size_drew, World.heap_drewN, World.size_setCell] at z6
        have z6_0 : w.heap.size < w6.heap.size := by omega
        have z6_1 : O < w6.heap.size := by omega
        simp only [RG.EndAll, List.nil_append, List.cons_append, List.length_cons, List.length_nil, Nat.zero_add, Nat.reduceAdd, List.take_succ_cons, List.take_zero, List.drop_succ_cons, List.drop_zero, RG.putAll, Act.put, List.setIfInBounds_toArray, List.set_cons_succ, List.set_cons_zero]
        go_wp2_with fail
        refine (HE8.out 9 qo _ (b5.trans (by repeat (first | with_reducible exact New.refl _ | with_reducible assumption | with_reducible refine New.drew ?_ | with_reducible refine New.drewN ?_ _ | with_reducible refine New.alloc ?_ _ | with_reducible refine New.setCell ?_ (by first | (simp; done) | (simp; omega) | omega) _ | with_reducible refine New.trans ?_ (by with_reducible assumption))))).mono ?_
        rintro e w7 ⟨rfl, hk7, h7⟩
        go_wp2_with fail
        refine bodyPost_ret (v := .tuple #[]) (by simp [results, Tryz.results41, go_sem]) rfl ?_
        rw [HLA.out]
        exact ⟨rfl, HKT.trans hk7, h7⟩
end Go.Proofs.YtadoocadohdfcaaGreatDoor
