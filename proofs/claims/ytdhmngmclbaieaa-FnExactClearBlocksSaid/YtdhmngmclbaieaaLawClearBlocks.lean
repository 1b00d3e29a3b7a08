/- The program's ClearBlocks returns what the reference's returns, for every argument. No condition. -/
import Derived.Test.YtdhmngmclbaieaaRows
import Derived.Test.YtdhmngmclbaieaaShape
import Derived.Test.YtdhmngmclbaieaaFacts
import Derived.Test.YtdhmngmclbaieaaReport3
import Derived.Test.YtdhmngmclbaieaaRegion
namespace Go.Proofs.Ytdhmngmclbaieaa
open Go Go.Proofs Go.RowKit Go.ChangeShapes Go.WideShapes Go.ChangeAt
set_option linter.unusedVariables false
set_option linter.unusedSimpArgs false
set_option maxRecDepth 100000
theorem sh_Report : Sh.of Try.prog 5 78 = some (.pair (.slice .int) (.pair (.slice .int) .nil)) := by kernel_rfl
theorem openReport {H : Type} {enc : TypeId × Value → H} {W : World} {r : Reach} {base : Nat} {v : Value} {d : DataW H} {p : List MemPlace} (h : DataW.Trod enc Try.prog W 0 (fun _ => true) true 78 v d p) (o : Value.okWide Try.prog W r base 78 v) :
    ∃ (u s : Value) (fs ss : List Int), v = .agg #[u, s] ∧ RdI W u fs ∧ RdI W s ss := by
  have hv := agg_of_okWide Try.underlying78 o
  obtain ⟨_, _, e, h1, _, _, rfl, h2, rfl⟩ := Sh.is_of_trod sh_Report h
  obtain ⟨u, rfl⟩ := one_of_slice h1
  obtain ⟨s, rfl⟩ := one_of_slice h2
  obtain ⟨fs, hfs⟩ := rdI_of_sh h1
  obtain ⟨ss, hss⟩ := rdI_of_sh h2
  refine ⟨u, s, fs, ss, ?_, hfs, hss⟩
  rw [hv, ← Array.toArray_toList (xs := v.cells), e]
  rfl
set_option maxHeartbeats 2000000 in
theorem lawClearBlocks_any (nb : Int) (u v : Value) (f s : List Int) (w : World) (hu : RdI w u f) (hv : RdI w v s) :
    Calls Try.prog 13 #[.int .i64 nb, .agg #[u, v]] w fun e w' => e = .returned (.bool true) ∧ New w w' := by
  have HU := Lib.hid hu
  have HV := Lib.hid hv
  clear hu hv
  have HS := Lib.hid (fun (a b : Value) (w0 : World) (h1 : RdI w0 a f) (h2 : RdI w0 b s) => sClearBlocks_any nb a b f s w0 h1 h2)
  have HI := Lib.hid (fun (a b : Value) (w0 : World) (h1 : RdI w0 a f) (h2 : RdI w0 b s) => iClearBlocks_any nb a b f s w0 h1 h2)
  have HR : (repOf nb f s (sumP f s 0)).1.length ≤ f.length := by
    unfold repOf; split
    · split
      · exact picked_le _ _
      · simp
    · simp
  generalize repOf nb f s (sumP f s 0) = R at HS HI HR
  obtain ⟨L, C⟩ := R
  dsimp only at HS HI HR
  have hLL : (decide (L = L)) = true := by simp
  have hCC : (C != C) = false := by simp
  have hbd := sz2_range (n := f.length) (m := s.length) (left := 1048576) (by omega) (by omega)
  by_cases hsz : sz2 f.length s.length 1048576 < 0
  · go_enter Try.func13, Try.ntmps13
    go_wp2_with fail
    refine (szReport_any u v f.length s.length _ _ 1048576 _ (HU.out.new (by repeat (first | with_reducible exact New.refl _ | with_reducible assumption | with_reducible refine New.drew ?_ | with_reducible refine New.drewN ?_ _ | with_reducible refine New.alloc ?_ _ | with_reducible refine New.setCell ?_ (by first | (simp; done) | (simp; omega) | omega) _ | with_reducible refine New.trans ?_ (by with_reducible assumption)))) (HV.out.new (by repeat (first | with_reducible exact New.refl _ | with_reducible assumption | with_reducible refine New.drew ?_ | with_reducible refine New.drewN ?_ _ | with_reducible refine New.alloc ?_ _ | with_reducible refine New.setCell ?_ (by first | (simp; done) | (simp; omega) | omega) _ | with_reducible refine New.trans ?_ (by with_reducible assumption)))) (by omega) (by omega)).mono ?_; rintro e w1 ⟨rfl, b1⟩
    try replace b1 := New.undrawN b1
    try replace b1 := New.undraw b1
    obtain ⟨c1, f1⟩ := b1.rules
    have z1 := b1.size
    try simp only [World.size_alloc, World.size_drew, World.heap_drewN, World.size_setCell] at z1
    have z1_0 : w.heap.size < w1.heap.size := by omega
    go_wp2_with fail
    go_ret
    exact ⟨rfl, (by repeat (first | with_reducible exact New.refl _ | with_reducible assumption | with_reducible refine New.drew ?_ | with_reducible refine New.drewN ?_ _ | with_reducible refine New.alloc ?_ _ | with_reducible refine New.setCell ?_ (by first | (simp; done) | (simp; omega) | omega) _ | with_reducible refine New.trans ?_ (by with_reducible assumption)))⟩
  · obtain ⟨hl1, hl2, hle⟩ := sz2_bd (Int.not_lt.1 hsz)
    have hlf : f.length ≤ 1048576 := by omega
    have hls : s.length ≤ 1048576 := by omega
    have hlL : L.length ≤ 1048576 := by omega
    clear hle hl1 hl2
    go_enter Try.func13, Try.ntmps13
    go_wp2_with fail
    refine (szReport_any u v f.length s.length _ _ 1048576 _ (HU.out.new (by repeat (first | with_reducible exact New.refl _ | with_reducible assumption | with_reducible refine New.drew ?_ | with_reducible refine New.drewN ?_ _ | with_reducible refine New.alloc ?_ _ | with_reducible refine New.setCell ?_ (by first | (simp; done) | (simp; omega) | omega) _ | with_reducible refine New.trans ?_ (by with_reducible assumption)))) (HV.out.new (by repeat (first | with_reducible exact New.refl _ | with_reducible assumption | with_reducible refine New.drew ?_ | with_reducible refine New.drewN ?_ _ | with_reducible refine New.alloc ?_ _ | with_reducible refine New.setCell ?_ (by first | (simp; done) | (simp; omega) | omega) _ | with_reducible refine New.trans ?_ (by with_reducible assumption)))) (by omega) (by omega)).mono ?_; rintro e w1 ⟨rfl, b1⟩
    try replace b1 := New.undrawN b1
    try replace b1 := New.undraw b1
    obtain ⟨c1, f1⟩ := b1.rules
    have z1 := b1.size
    try simp only [World.size_alloc, World.size_drew, World.heap_drewN, World.size_setCell] at z1
    have z1_0 : w.heap.size < w1.heap.size := by omega
    go_wp2_with fail
    refine (toReport_any u v f s _ (HU.out.new (by repeat (first | with_reducible exact New.refl _ | with_reducible assumption | with_reducible refine New.drew ?_ | with_reducible refine New.drewN ?_ _ | with_reducible refine New.alloc ?_ _ | with_reducible refine New.setCell ?_ (by first | (simp; done) | (simp; omega) | omega) _ | with_reducible refine New.trans ?_ (by with_reducible assumption)))) (HV.out.new (by repeat (first | with_reducible exact New.refl _ | with_reducible assumption | with_reducible refine New.drew ?_ | with_reducible refine New.drewN ?_ _ | with_reducible refine New.alloc ?_ _ | with_reducible refine New.setCell ?_ (by first | (simp; done) | (simp; omega) | omega) _ | with_reducible refine New.trans ?_ (by with_reducible assumption)))) hlf hls).mono ?_; rintro e w2 ⟨u2, v2, rfl, b2, o2u, o2v, B2, hBB2, hB2, o2w⟩
    obtain ⟨c2, f2⟩ := b2.rules
    have z2 := b2.size
    try simp only [World.size_alloc, World.size_drew, World.heap_drewN, World.size_setCell] at z2
    have z2_0 : w.heap.size < w2.heap.size := by omega
    go_wp2_with fail
    refine (HS.out u2 v2 _ (own_rd o2u) (own_rd o2v)).mono ?_; rintro e w3 ⟨r3, rfl, b3, o3⟩
    obtain ⟨c3, f3⟩ := b3.rules
    have z3 := b3.size
    try simp only [World.size_alloc, World.size_drew, World.heap_drewN, World.size_setCell] at z3
    have z3_0 : w.heap.size < w3.heap.size := by omega
    go_wp2_with fail
    refine (toReport_any u v f s _ (HU.out.new (by repeat (first | with_reducible exact New.refl _ | with_reducible assumption | with_reducible refine New.drew ?_ | with_reducible refine New.drewN ?_ _ | with_reducible refine New.alloc ?_ _ | with_reducible refine New.setCell ?_ (by first | (simp; done) | (simp; omega) | omega) _ | with_reducible refine New.trans ?_ (by with_reducible assumption)))) (HV.out.new (by repeat (first | with_reducible exact New.refl _ | with_reducible assumption | with_reducible refine New.drew ?_ | with_reducible refine New.drewN ?_ _ | with_reducible refine New.alloc ?_ _ | with_reducible refine New.setCell ?_ (by first | (simp; done) | (simp; omega) | omega) _ | with_reducible refine New.trans ?_ (by with_reducible assumption)))) hlf hls).mono ?_; rintro e w4 ⟨u4, v4, rfl, b4, o4u, o4v, B4, hBB4, hB4, o4w⟩
    obtain ⟨ua, uc, rfl⟩ := own_slice o4u; obtain ⟨va, vc, rfl⟩ := own_slice o4v
    obtain ⟨c4, f4⟩ := b4.rules
    have z4 := b4.size
    try simp only [World.size_alloc, World.size_drew, World.heap_drewN, World.size_setCell] at z4
    have z4_0 : w.heap.size < w4.heap.size := by omega
    go_wp2_with fail
    refine (HI.out _ _ _ (RdI.new (own_rd o4u) (by repeat (first | with_reducible exact New.refl _ | with_reducible assumption | with_reducible refine New.drew ?_ | with_reducible refine New.drewN ?_ _ | with_reducible refine New.alloc ?_ _ | with_reducible refine New.setCell ?_ (by first | (simp; done) | (simp; omega) | omega) _ | with_reducible refine New.trans ?_ (by with_reducible assumption)))) (RdI.new (own_rd o4v) (by repeat (first | with_reducible exact New.refl _ | with_reducible assumption | with_reducible refine New.drew ?_ | with_reducible refine New.drewN ?_ _ | with_reducible refine New.alloc ?_ _ | with_reducible refine New.setCell ?_ (by first | (simp; done) | (simp; omega) | omega) _ | with_reducible refine New.trans ?_ (by with_reducible assumption))))).mono ?_; rintro e w5 ⟨r5, rfl, b5, o5⟩
    obtain ⟨c5, f5⟩ := b5.rules
    have z5 := b5.size
    try simp only [World.size_alloc, World.size_drew, World.heap_drewN, World.size_setCell] at z5
    have z5_0 : w.heap.size < w5.heap.size := by omega
    have z5_1 : w4.heap.size < w5.heap.size := by omega
    go_wp2_with fail
    refine (eqInt64S_any _ _ L L _ (own_rd o5) (RdI.new (own_rd o3) (by repeat (first | with_reducible exact New.refl _ | with_reducible assumption | with_reducible refine New.drew ?_ | with_reducible refine New.drewN ?_ _ | with_reducible refine New.alloc ?_ _ | with_reducible refine New.setCell ?_ (by first | (simp; done) | (simp; omega) | omega) _ | with_reducible refine New.trans ?_ (by with_reducible assumption))))).mono ?_; rintro e w6 ⟨rfl, n6, rfl⟩
    go_wp2_with fail
    have k80 : w5.cell? ⟨w4.heap.size, 0, none⟩ = some (.slice ua f.length uc) := by rw [c5 _ _ (by simp)]; simp
    have k81 : w5.cell? ⟨w4.heap.size, 1, none⟩ = some (.slice va s.length vc) := by rw [c5 _ _ (by simp)]; simp
    have k30 : w5.cell? ⟨w.heap.size, 0, none⟩ = some u := by rw [c5 w.heap.size 0 (by simp only [World.size_alloc]; omega), (New.alloc (New.refl w4) _).cell z4_0, c4 _ _ z3_0, c3 _ _ z2_0, c2 _ _ z1_0, c1 _ _ (by simp)]; simp
    have k31 : w5.cell? ⟨w.heap.size, 1, none⟩ = some v := by rw [c5 w.heap.size 1 (by simp only [World.size_alloc]; omega), (New.alloc (New.refl w4) _).cell z4_0, c4 _ _ z3_0, c3 _ _ z2_0, c2 _ _ z1_0, c1 _ _ (by simp)]; simp
    refine wp_facts [fun v _ => v = .agg #[.slice ua f.length uc, .slice va s.length vc], fun x _ => x = .agg #[u, v], fun x w' => ∃ p q, x = .agg #[p, q] ∧ RdI w' p f ∧ RdI w' q s, fun v _ => v = .bool true, fun v _ => v = .bool false] (by kernel_rfl) (by kernel_rfl) ⟨stable_eq _, stable_eq _, fun v w w' hn ⟨p, q, h1, h2, h3⟩ => ⟨p, q, h1, h2.new hn, h3.new hn⟩, stable_eq _, stable_eq _, trivial⟩ ?_ ?_
    · refine ⟨?_, ?_, ?_, ?_, ?_, trivial⟩
      · intro a w9 hw ho hk
        have t2 := ho 8 rfl
        dsimp at t2
        obtain ⟨c, f'⟩ := (New.undrawN hw).rules
        go_simp
        exact New.refl _
      · intro a w9 hw ho hk
        have t2 := ho 3 rfl
        dsimp at t2
        obtain ⟨c, f'⟩ := (New.undrawN hw).rules
        go_simp
        exact New.refl _
      · intro a w9 hw ho hk
        have t1 : a.tmps[46]?.getD undef = .agg #[u, v] := hk 1 46 (by kernel_rfl) rfl
        go_simp
        refine (toReport_any u v f s _ (HU.out.new (by repeat (first | with_reducible exact New.refl _ | with_reducible assumption | with_reducible refine New.drew ?_ | with_reducible refine New.drewN ?_ _ | with_reducible refine New.alloc ?_ _ | with_reducible refine New.setCell ?_ (by first | (simp; done) | (simp; omega) | omega) _ | with_reducible refine New.trans ?_ (by with_reducible assumption)))) (HV.out.new (by repeat (first | with_reducible exact New.refl _ | with_reducible assumption | with_reducible refine New.drew ?_ | with_reducible refine New.drewN ?_ _ | with_reducible refine New.alloc ?_ _ | with_reducible refine New.setCell ?_ (by first | (simp; done) | (simp; omega) | omega) _ | with_reducible refine New.trans ?_ (by with_reducible assumption)))) hlf hls).mono ?_; rintro e w2 ⟨u9, v9, rfl, hb, ou, ov, _⟩
        exact ⟨hb, _, rfl, _, _, rfl, own_rd ou, own_rd ov⟩
      · intro a w9 hw ho hk
        have t1 : a.tmps[45]?.getD undef = .agg #[.slice ua f.length uc, .slice va s.length vc] := hk 0 45 (by kernel_rfl) rfl
        obtain ⟨p9, q9, t2, hu9, hv9⟩ : ∃ p q, a.tmps[47]?.getD undef = .agg #[p, q] ∧ RdI w9 p f ∧ RdI w9 q s := hk 2 47 (by kernel_rfl) rfl
        go_simp
        refine (eqReport_any _ _ _ _ f s f s _ (RdI.new (own_rd o4u) (by repeat (first | with_reducible exact New.refl _ | with_reducible assumption | with_reducible refine New.drew ?_ | with_reducible refine New.drewN ?_ _ | with_reducible refine New.alloc ?_ _ | with_reducible refine New.setCell ?_ (by first | (simp; done) | (simp; omega) | omega) _ | with_reducible refine New.trans ?_ (by with_reducible assumption)))) (RdI.new (own_rd o4v) (by repeat (first | with_reducible exact New.refl _ | with_reducible assumption | with_reducible refine New.drew ?_ | with_reducible refine New.drewN ?_ _ | with_reducible refine New.alloc ?_ _ | with_reducible refine New.setCell ?_ (by first | (simp; done) | (simp; omega) | omega) _ | with_reducible refine New.trans ?_ (by with_reducible assumption)))) hu9 hv9).mono ?_; rintro e w2 ⟨rfl, hb⟩
        first | exact ⟨hb, _, rfl, by simp⟩ | exact ⟨hb, by simp⟩
      · intro a w9 hw ho hk
        have t1 : a.tmps[48]?.getD undef = .bool true := hk 3 48 (by kernel_rfl) rfl
        go_simp
        exact New.refl _
    · intro w7 b7 x0 h0 x1 h1 x2 h2 x3 h3 x4 h4
      subst h0 h1 h3 h4
      replace b7 := New.undrawN b7
      obtain ⟨c7, f7⟩ := b7.rules
      have z7 := b7.size
      have z7_0 : w.heap.size < w7.heap.size := by omega
      have z7_1 : w4.heap.size < w7.heap.size := by omega
      have hub := own_block_lt o4u
      have hvb := own_block_lt o4w
      have hvb' := own_block_lt o4v
      simp only [EndAll, List.nil_append, List.cons_append, List.length_cons, List.length_nil, Nat.zero_add, Nat.reduceAdd, List.take_succ_cons, List.take_zero, List.drop_succ_cons, List.drop_zero, putAll, Act.put, List.setIfInBounds_toArray, List.set_cons_succ, List.set_cons_zero]
      go_wp2_with fail
      have o4u7 := own_new o4u (show New w4 w7 by exact (by repeat (first | with_reducible exact New.refl _ | with_reducible assumption | with_reducible refine New.drew ?_ | with_reducible refine New.drewN ?_ _ | with_reducible refine New.alloc ?_ _ | with_reducible refine New.setCell ?_ (by first | (simp; done) | (simp; omega) | omega) _ | with_reducible refine New.trans ?_ (by with_reducible assumption))))
      have o4w7 := own_new o4w (show New w4 w7 by exact (by repeat (first | with_reducible exact New.refl _ | with_reducible assumption | with_reducible refine New.drew ?_ | with_reducible refine New.drewN ?_ _ | with_reducible refine New.alloc ?_ _ | with_reducible refine New.setCell ?_ (by first | (simp; done) | (simp; omega) | omega) _ | with_reducible refine New.trans ?_ (by with_reducible assumption))))
      have o57 := own_new o5 b7
      simp only [World.size_alloc] at o57
      refine (markReport_any _ _ f s w3.heap.size B4 w4.heap.size 1 _ o4u7 o4w7 (by omega) (by omega) hlf hls (fun k hk => ⟨(hub k hk).2, hB4 k hk⟩) (fun k hk => (hvb k hk).2) (by omega) (by omega)).mono ?_
      rintro e w8 ⟨rfl, t8⟩
      have b8 : New w3 w8 := t8.new (by repeat (first | with_reducible exact New.refl _ | with_reducible assumption | with_reducible refine New.drew ?_ | with_reducible refine New.drewN ?_ _ | with_reducible refine New.alloc ?_ _ | with_reducible refine New.setCell ?_ (by first | (simp; done) | (simp; omega) | omega) _ | with_reducible refine New.trans ?_ (by with_reducible assumption))) (Nat.le_refl _)
      have o58 := t8.own o57 (by omega)
      obtain ⟨c8, f8⟩ := b8.rules
      have z8 := b8.size
      have z8_0 : w.heap.size < w8.heap.size := by omega
      clear c7 f7 b7
      go_wp2_with fail
      refine (eqInt64S_any _ _ L L _ (own_rd o58) (own_rd (own_new o3 b8))).mono ?_; rintro e w9 ⟨rfl, n9, rfl⟩
      go_wp2_with fail
      refine (markInt64S_any _ L _ 1 _ (own_new o58 (New.drewN (New.refl _) _)) hlL (by omega)).mono ?_
      rintro e w10 ⟨rfl, on10, own10⟩
      have b10 : New w3 w10 := on10.new (b8.drewN n9) (fun k hk => by have := (own_block_lt o58 k hk).1; omega)
      obtain ⟨c10, f10⟩ := b10.rules
      have z10 := b10.size
      have z10_0 : w.heap.size < w10.heap.size := by omega
      have rd10 : RdI w10 r5 (marks 1 L.length) := by have := own_rd own10; rwa [RdI, marks_length]
      clear c8 f8 on10
      go_wp2_with fail
      refine (heldInt64S_any _ 1 L.length _ rd10 hlL (by omega)).mono ?_; rintro e w11 ⟨rfl, rfl⟩
      go_wp2_with fail
      refine (toReport_any u v f s _ (HU.out.new (by repeat (first | with_reducible exact New.refl _ | with_reducible assumption | with_reducible refine New.drew ?_ | with_reducible refine New.drewN ?_ _ | with_reducible refine New.alloc ?_ _ | with_reducible refine New.setCell ?_ (by first | (simp; done) | (simp; omega) | omega) _ | with_reducible refine New.trans ?_ (by with_reducible assumption)))) (HV.out.new (by repeat (first | with_reducible exact New.refl _ | with_reducible assumption | with_reducible refine New.drew ?_ | with_reducible refine New.drewN ?_ _ | with_reducible refine New.alloc ?_ _ | with_reducible refine New.setCell ?_ (by first | (simp; done) | (simp; omega) | omega) _ | with_reducible refine New.trans ?_ (by with_reducible assumption)))) hlf hls).mono ?_; rintro e w12 ⟨u12, v12, rfl, b12, o12u, o12v, _⟩
      obtain ⟨c12, f12⟩ := b12.rules
      have z12 := b12.size
      try simp only [World.size_alloc, World.size_drew, World.heap_drewN, World.size_setCell] at z12
      have z12_0 : w.heap.size < w12.heap.size := by omega
      go_wp2_with fail
      refine (HI.out _ _ _ (own_rd o12u) (own_rd o12v)).mono ?_; rintro e w13 ⟨r13, rfl, b13, o13⟩
      obtain ⟨c13, f13⟩ := b13.rules
      have z13 := b13.size
      try simp only [World.size_alloc, World.size_drew, World.heap_drewN, World.size_setCell] at z13
      have z13_0 : w.heap.size < w13.heap.size := by omega
      go_wp2_with fail
      refine (eqInt64S_any _ _ L L _ (own_rd o13) (RdI.new (own_rd o3) (by repeat (first | with_reducible exact New.refl _ | with_reducible assumption | with_reducible refine New.drew ?_ | with_reducible refine New.drewN ?_ _ | with_reducible refine New.alloc ?_ _ | with_reducible refine New.setCell ?_ (by first | (simp; done) | (simp; omega) | omega) _ | with_reducible refine New.trans ?_ (by with_reducible assumption))))).mono ?_; rintro e w14 ⟨rfl, n14, rfl⟩
      go_wp2_with fail
      refine (heldInt64S_any _ 1 L.length _ (rd10.new (by repeat (first | with_reducible exact New.refl _ | with_reducible assumption | with_reducible refine New.drew ?_ | with_reducible refine New.drewN ?_ _ | with_reducible refine New.alloc ?_ _ | with_reducible refine New.setCell ?_ (by first | (simp; done) | (simp; omega) | omega) _ | with_reducible refine New.trans ?_ (by with_reducible assumption)))) hlL (by omega)).mono ?_; rintro e w15 ⟨rfl, rfl⟩
      go_wp2_with fail
      go_ret
      exact ⟨rfl, (by repeat (first | with_reducible exact New.refl _ | with_reducible assumption | with_reducible refine New.drew ?_ | with_reducible refine New.drewN ?_ _ | with_reducible refine New.alloc ?_ _ | with_reducible refine New.setCell ?_ (by first | (simp; done) | (simp; omega) | omega) _ | with_reducible refine New.trans ?_ (by with_reducible assumption)))⟩
namespace fnExactClearBlocks
theorem own : ownKnob Try.prog.godebug = none := by kernel_rfl
theorem reads : (Try.f13.params.toList.all fun t => Try.prog.readableRec t && decide (t < Try.prog.types.size)) = true := by kernel_rfl
set_option maxRecDepth 100000 in
theorem lifted (os : Os) (started : os.Started) (H : Type) (enc : TypeId × Value → H) :
    ReturnsInHanded {} Try.checked os 13 .any (Rows.fnExactClearBlocksSpec.pre6 enc Try.prog Try.f13 Rows.fnExactClearBlocksRow.domain false) (Rows.fnExactClearBlocksSpec.post enc Try.prog Try.f13 false true false false) := by
  refine returnsInHanded_of_change (C := Try.checked) own started (by kernel_rfl) Try.func13
    (ChangeSpec.witness6 (enc := enc) (C := Try.checked) false ⟨#[], #[.int .i64 0, .agg #[.slice none 0 0, .slice none 0 0]], []⟩ 8 (by kernel_rfl) (by kernel_rfl) (by kernel_rfl) (by kernel_rfl)) ?_
  intro W base args ds gs before hval0 hW hcnd _
  have hval : ∀ (j : Nat) t v, Try.f13.params[j]? = some t → args[j]? = some v → Value.okWide Try.prog W .any base t v := hval0
  have hW' := hW
  obtain ⟨p, q, hA0, hV, rfl, hfz, hnd⟩ := hW
  have hA : DataW.TrodAll enc Try.prog W 0 (fun _ => true) true Try.f13.params.toList args.toList ds p := hA0
  rw [Try.params13] at hA hval
  obtain ⟨v0, vs0, d0, ds0, p0, q0, hargs, rfl, rfl, h0, r0⟩ := trodAll_cons hA
  obtain ⟨v1, vs1, d1, ds1, p1, q1, rfl, rfl, rfl, h1, r1⟩ := trodAll_cons r0
  obtain ⟨rfl, rfl, rfl⟩ := trodAll_nil r1
  obtain rfl : args = #[v0, v1] := by cases args; simp_all
  have o0 := hval 0 2 v0 rfl rfl
  have o1 := hval 1 78 v1 rfl rfl
  clear hA0 hval hval0
  obtain ⟨rfl, rfl⟩ := trodVars_none hV
  have walk : Calls Try.prog 13 #[v0, v1] W fun e w' => e = .returned (.bool true) ∧ New W w' := by
    obtain ⟨nb, rfl⟩ := okWide_int Try.underlying2 o0
    obtain ⟨u, s, fs, ss, rfl, h1', h2'⟩ := openReport h1 o1
    exact lawClearBlocks_any nb u s fs ss W h1' h2'
  refine walk.mono fun e W' ⟨he, hg⟩ => ?_
  subst he
  exact ⟨_, rfl, law_post laidOut (fun t ht => reads_of reads t ht) (fun n hn => by cases hn) rfl Try.underlying4 hW' rfl hg⟩
theorem proved : Rows.FnExactClearBlocksSaid :=
  OpenClaim.holds_of_wide 13 Try.f13 rfl rfl rfl rfl rfl rfl rfl ⟨rfl, rfl, rfl, rfl, rfl⟩ rfl rfl rfl rfl rfl (by kernel_rfl) Try.func13 (by kernel_rfl)
    (of_decide_eq_true (by kernel_rfl)) (by unfold Func.isWrapper; first | (rw [if_pos (by decide +kernel)]; kernel_rfl) | (rw [if_neg (by decide +kernel)]; exact ⟨rfl, rfl⟩))
    (fun os started H enc _ => lifted os started H enc)
#print axioms proved
end fnExactClearBlocks
end Go.Proofs.Ytdhmngmclbaieaa
