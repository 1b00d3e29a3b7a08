/- The program's PermittedMoves returns what the reference's returns, for every argument. No condition. -/
import Derived.Test.YtdhmngmclbaieaaRows
import Derived.Test.YtdhmngmclbaieaaOpens
import Derived.Test.YtdhmngmclbaieaaFacts
import Derived.Test.YtdhmngmclbaieaaPermitted
import Derived.Test.YtdhmngmclbaieaaRegion
import Derived.Test.YtdhmngmclbaieaaCells
namespace Go.Proofs.Ytdhmngmclbaieaa
open Go Go.Proofs Go.RowKit Go.ChangeShapes Go.WideShapes Go.ChangeAt
set_option linter.unusedVariables false
set_option linter.unusedSimpArgs false
set_option maxRecDepth 100000
set_option maxHeartbeats 2000000 in
theorem lawPermittedMoves_any (b : Int) (pv u v : Value) (ps f s : List Int) (w : World) (hp : RdI w pv ps) (hu : RdI w u f) (hv : RdI w v s) :
    Calls Try.prog 14 #[.agg #[.int .i64 b, pv], .agg #[u, v]] w fun e w' => e = .returned (.bool true) ∧ New w w' := by
  have HP := Lib.hid hp
  have HU := Lib.hid hu
  have HV := Lib.hid hv
  clear hp hu hv
  have HS := Lib.hid (fun (x y z : Value) (w0 : World) (h0 : RdI w0 x ps) (h1 : RdI w0 y f) (h2 : RdI w0 z s) => sPermittedMoves_any b x y z ps f s w0 h0 h1 h2)
  have HI := Lib.hid (fun (x y z : Value) (w0 : World) (h0 : RdI w0 x ps) (h1 : RdI w0 y f) (h2 : RdI w0 z s) => iPermittedMoves_any b x y z ps f s w0 h0 h1 h2)
  have HR : (permOf b ps f s).1.length ≤ ps.length := by
    unfold permOf; split
    · split
      · exact picked_le _ _
      · simp
    · simp
  generalize permOf b ps f s = R at HS HI HR
  obtain ⟨L, C⟩ := R
  dsimp only at HS HI HR
  have hCC : (C != C) = false := by simp
  have zz : w.heap.size < w.heap.size + 1 + 1 := by omega
  have hbd := szL_range (n := ps.length) (left := 1048576) (B := 1048576) (by omega) (by omega)
  by_cases hsz : szL ps.length 1048576 < 0
  · go_enter Try.func14, Try.ntmps14
    go_wp2_with fail
    refine (szTraffic_any b pv ps.length _ 1048576 _ (HP.out.new (by repeat (first | with_reducible exact New.refl _ | with_reducible assumption | with_reducible refine New.drew ?_ | with_reducible refine New.drewN ?_ _ | with_reducible refine New.alloc ?_ _ | with_reducible refine New.setCell ?_ (by first | (simp; done) | (simp; omega) | omega) _ | with_reducible refine New.trans ?_ (by with_reducible assumption)))) (by omega) (by omega)).mono ?_; rintro e w1 ⟨rfl, b1⟩
    try replace b1 := New.undrawN b1
    try replace b1 := New.undraw b1
    obtain ⟨c1, f1⟩ := b1.rules
    have z1 := b1.size
    try simp only [World.size_alloc, World.size_drew, World.heap_drewN, World.size_setCell] at z1
    have z1_0 : w.heap.size < w1.heap.size := by omega
    have z1_1 : w.heap.size + 1 < w1.heap.size := by omega
    go_wp2_with fail
    go_ret
    exact ⟨rfl, (by repeat (first | with_reducible exact New.refl _ | with_reducible assumption | with_reducible refine New.drew ?_ | with_reducible refine New.drewN ?_ _ | with_reducible refine New.alloc ?_ _ | with_reducible refine New.setCell ?_ (by first | (simp; done) | (simp; omega) | omega) _ | with_reducible refine New.trans ?_ (by with_reducible assumption)))⟩
  obtain ⟨hl1, hle⟩ := szL_bd (Int.not_lt.1 hsz)
  have hlp : ps.length ≤ 1048576 := by omega
  clear hl1 hle
  have hbd2 := sz2_range (n := f.length) (m := s.length) (left := szL ps.length 1048576) (by omega) (by omega)
  by_cases hsz2 : sz2 f.length s.length (szL ps.length 1048576) < 0
  · go_enter Try.func14, Try.ntmps14
    go_wp2_with fail
    refine (szTraffic_any b pv ps.length _ 1048576 _ (HP.out.new (by repeat (first | with_reducible exact New.refl _ | with_reducible assumption | with_reducible refine New.drew ?_ | with_reducible refine New.drewN ?_ _ | with_reducible refine New.alloc ?_ _ | with_reducible refine New.setCell ?_ (by first | (simp; done) | (simp; omega) | omega) _ | with_reducible refine New.trans ?_ (by with_reducible assumption)))) (by omega) (by omega)).mono ?_; rintro e w1 ⟨rfl, b1⟩
    try replace b1 := New.undrawN b1
    try replace b1 := New.undraw b1
    obtain ⟨c1, f1⟩ := b1.rules
    have z1 := b1.size
    try simp only [World.size_alloc, World.size_drew, World.heap_drewN, World.size_setCell] at z1
    have z1_0 : w.heap.size < w1.heap.size := by omega
    have z1_1 : w.heap.size + 1 < w1.heap.size := by omega
    go_wp2_with fail
    refine (szReport_any u v f.length s.length _ _ _ _ (HU.out.new (by repeat (first | with_reducible exact New.refl _ | with_reducible assumption | with_reducible refine New.drew ?_ | with_reducible refine New.drewN ?_ _ | with_reducible refine New.alloc ?_ _ | with_reducible refine New.setCell ?_ (by first | (simp; done) | (simp; omega) | omega) _ | with_reducible refine New.trans ?_ (by with_reducible assumption)))) (HV.out.new (by repeat (first | with_reducible exact New.refl _ | with_reducible assumption | with_reducible refine New.drew ?_ | with_reducible refine New.drewN ?_ _ | with_reducible refine New.alloc ?_ _ | with_reducible refine New.setCell ?_ (by first | (simp; done) | (simp; omega) | omega) _ | with_reducible refine New.trans ?_ (by with_reducible assumption)))) (by omega) (by omega)).mono ?_; rintro e w2 ⟨rfl, b2⟩
    try replace b2 := New.undrawN b2
    try replace b2 := New.undraw b2
    obtain ⟨c2, f2⟩ := b2.rules
    have z2 := b2.size
    try simp only [World.size_alloc, World.size_drew, World.heap_drewN, World.size_setCell] at z2
    have z2_0 : w.heap.size < w2.heap.size := by omega
    have z2_1 : w.heap.size + 1 < w2.heap.size := by omega
    go_wp2_with fail
    go_ret
    exact ⟨rfl, (by repeat (first | with_reducible exact New.refl _ | with_reducible assumption | with_reducible refine New.drew ?_ | with_reducible refine New.drewN ?_ _ | with_reducible refine New.alloc ?_ _ | with_reducible refine New.setCell ?_ (by first | (simp; done) | (simp; omega) | omega) _ | with_reducible refine New.trans ?_ (by with_reducible assumption)))⟩
  obtain ⟨hl1, hl2, hle⟩ := sz2_bd (Int.not_lt.1 hsz2)
  have hlf : f.length ≤ 1048576 := by omega
  have hls : s.length ≤ 1048576 := by omega
  have hlL : L.length ≤ 1048576 := by omega
  clear hle hl1 hl2
  go_enter Try.func14, Try.ntmps14
  go_wp2_with fail
  refine (szTraffic_any b pv ps.length _ 1048576 _ (HP.out.new (by repeat (first | with_reducible exact New.refl _ | with_reducible assumption | with_reducible refine New.drew ?_ | with_reducible refine New.drewN ?_ _ | with_reducible refine New.alloc ?_ _ | with_reducible refine New.setCell ?_ (by first | (simp; done) | (simp; omega) | omega) _ | with_reducible refine New.trans ?_ (by with_reducible assumption)))) (by omega) (by omega)).mono ?_; rintro e w1 ⟨rfl, b1⟩
  try replace b1 := New.undrawN b1
  try replace b1 := New.undraw b1
  obtain ⟨c1, f1⟩ := b1.rules
  have z1 := b1.size
  try simp only [World.size_alloc, World.size_drew, World.heap_drewN, World.size_setCell] at z1
  have z1_0 : w.heap.size < w1.heap.size := by omega
  have z1_1 : w.heap.size + 1 < w1.heap.size := by omega
  go_wp2_with fail
  refine (szReport_any u v f.length s.length _ _ _ _ (HU.out.new (by repeat (first | with_reducible exact New.refl _ | with_reducible assumption | with_reducible refine New.drew ?_ | with_reducible refine New.drewN ?_ _ | with_reducible refine New.alloc ?_ _ | with_reducible refine New.setCell ?_ (by first | (simp; done) | (simp; omega) | omega) _ | with_reducible refine New.trans ?_ (by with_reducible assumption)))) (HV.out.new (by repeat (first | with_reducible exact New.refl _ | with_reducible assumption | with_reducible refine New.drew ?_ | with_reducible refine New.drewN ?_ _ | with_reducible refine New.alloc ?_ _ | with_reducible refine New.setCell ?_ (by first | (simp; done) | (simp; omega) | omega) _ | with_reducible refine New.trans ?_ (by with_reducible assumption)))) (by omega) (by omega)).mono ?_; rintro e w2 ⟨rfl, b2⟩
  try replace b2 := New.undrawN b2
  try replace b2 := New.undraw b2
  obtain ⟨c2, f2⟩ := b2.rules
  have z2 := b2.size
  try simp only [World.size_alloc, World.size_drew, World.heap_drewN, World.size_setCell] at z2
  have z2_0 : w.heap.size < w2.heap.size := by omega
  have z2_1 : w.heap.size + 1 < w2.heap.size := by omega
  go_wp2_with fail
  refine wp_facts [fun X _ => X = .agg #[.int .i64 b, pv], fun X W' => ∃ q, X = .agg #[.int .i64 b, q] ∧ RdI W' q ps, fun X _ => X = .agg #[u, v], fun X W' => ∃ p q, X = .agg #[p, q] ∧ RdI W' p f ∧ RdI W' q s, fun X W' => ∃ r, X = .tuple #[r, .int .i64 C] ∧ RdI W' r L, fun X W' => ∃ r, X = .tuple #[r, .int .i64 C] ∧ RdI W' r L, fun X W' => RdI W' X L, fun X _ => X = .int .i64 C, fun X W' => RdI W' X L, fun X _ => X = .int .i64 C] (by kernel_rfl) (by kernel_rfl) ⟨stable_eq _, fun X w0 w1 hn ⟨q1, t29, r1⟩ => ⟨q1, t29, r1.new hn⟩, stable_eq _, fun X w0 w1 hn ⟨q2, q3, t31, r2, r3⟩ => ⟨q2, q3, t31, r2.new hn, r3.new hn⟩, fun X w0 w1 hn ⟨q4, t32, r4⟩ => ⟨q4, t32, r4.new hn⟩, fun X w0 w1 hn ⟨q5, t27, r5⟩ => ⟨q5, t27, r5.new hn⟩, fun X w0 w1 hn r6 => r6.new hn, stable_eq _, fun X w0 w1 hn r7 => r7.new hn, stable_eq _, trivial⟩ ?_ ?_
  · refine ⟨?_, ?_, ?_, ?_, ?_, ?_, ?_, ?_, ?_, ?_, trivial⟩
    · intro a w9 hw ho hk
      have t2 := ho 2 rfl
      dsimp at t2
      try with_reducible replace hw := New.undrawN hw
      try with_reducible replace hw := New.undraw hw
      obtain ⟨c, f'⟩ := hw.rules
      go_simp
      exact New.refl _
    · intro a w9 hw ho hk
      have t28 : a.tmps[28]?.getD undef = .agg #[.int .i64 b, pv] := hk 0 28 (by kernel_rfl) rfl
      go_simp
      refine (toTraffic_any b pv ps _ (HP.out.new (by repeat (first | with_reducible exact New.refl _ | with_reducible assumption | with_reducible refine New.drew ?_ | with_reducible refine New.drewN ?_ _ | with_reducible refine New.alloc ?_ _ | with_reducible refine New.setCell ?_ (by first | (simp; done) | (simp; omega) | omega) _ | with_reducible refine New.trans ?_ (by with_reducible assumption)))) hlp).mono ?_; rintro e w2 ⟨q, rfl, hb, o⟩
      exact ⟨hb, _, rfl, _, rfl, own_rd o⟩
    · intro a w9 hw ho hk
      have t2 := ho 3 rfl
      dsimp at t2
      try with_reducible replace hw := New.undrawN hw
      try with_reducible replace hw := New.undraw hw
      obtain ⟨c, f'⟩ := hw.rules
      go_simp
      exact New.refl _
    · intro a w9 hw ho hk
      have t30 : a.tmps[30]?.getD undef = .agg #[u, v] := hk 2 30 (by kernel_rfl) rfl
      go_simp
      refine (toReport_any u v f s _ (HU.out.new (by repeat (first | with_reducible exact New.refl _ | with_reducible assumption | with_reducible refine New.drew ?_ | with_reducible refine New.drewN ?_ _ | with_reducible refine New.alloc ?_ _ | with_reducible refine New.setCell ?_ (by first | (simp; done) | (simp; omega) | omega) _ | with_reducible refine New.trans ?_ (by with_reducible assumption)))) (HV.out.new (by repeat (first | with_reducible exact New.refl _ | with_reducible assumption | with_reducible refine New.drew ?_ | with_reducible refine New.drewN ?_ _ | with_reducible refine New.alloc ?_ _ | with_reducible refine New.setCell ?_ (by first | (simp; done) | (simp; omega) | omega) _ | with_reducible refine New.trans ?_ (by with_reducible assumption)))) hlf hls).mono ?_; rintro e w2 ⟨p, q, rfl, hb, o1, o2, _⟩
      exact ⟨hb, _, rfl, _, _, rfl, own_rd o1, own_rd o2⟩
    · intro a w9 hw ho hk
      obtain ⟨q1, t29, r1⟩ : ∃ q, (a.tmps[29]?.getD undef) = .agg #[.int .i64 b, q] ∧ RdI w9 q ps := hk 1 29 (by kernel_rfl) rfl
      obtain ⟨q2, q3, t31, r2, r3⟩ : ∃ p q, (a.tmps[31]?.getD undef) = .agg #[p, q] ∧ RdI w9 p f ∧ RdI w9 q s := hk 3 31 (by kernel_rfl) rfl
      go_simp
      refine (HS.out q1 q2 q3 _ r1 r2 r3).mono ?_; rintro e w2 ⟨r, rfl, hb, o⟩
      exact ⟨hb, _, rfl, _, rfl, own_rd o⟩
    · intro a w9 hw ho hk
      obtain ⟨q4, t32, r4⟩ : ∃ r, (a.tmps[32]?.getD undef) = .tuple #[r, .int .i64 C] ∧ RdI w9 r L := hk 4 32 (by kernel_rfl) rfl
      go_simp
      exact ⟨New.refl _, _, rfl, _, rfl, r4⟩
    · intro a w9 hw ho hk
      obtain ⟨q5, t27, r5⟩ : ∃ r, (a.tmps[27]?.getD undef) = .tuple #[r, .int .i64 C] ∧ RdI w9 r L := hk 5 27 (by kernel_rfl) rfl
      go_simp
      exact ⟨New.refl _, _, rfl, r5⟩
    · intro a w9 hw ho hk
      obtain ⟨q5, t27, r5⟩ : ∃ r, (a.tmps[27]?.getD undef) = .tuple #[r, .int .i64 C] ∧ RdI w9 r L := hk 5 27 (by kernel_rfl) rfl
      go_simp
      exact New.refl _
    · intro a w9 hw ho hk
      obtain r6 : RdI w9 (a.tmps[33]?.getD undef) L := hk 6 33 (by kernel_rfl) rfl
      go_simp
      exact ⟨New.refl _, _, rfl, r6⟩
    · intro a w9 hw ho hk
      have t34 : a.tmps[34]?.getD undef = .int .i64 C := hk 7 34 (by kernel_rfl) rfl
      go_simp
      exact New.refl _
  intro w3 b3 x0 h0 x1 h1 x2 h2 x3 h3 x4 h4 x5 h5 x6 h6 x7 h7 x8 h8 x9 h9
  subst h0 h2 h7 h9
  obtain ⟨r3, rfl, _⟩ := h5
  obtain ⟨r3', rfl, _⟩ := h4
  clear h6
  obtain ⟨c3, f3⟩ := b3.rules
  have z3 := b3.size
  have z3_0 : w.heap.size < w3.heap.size := by omega
  have z3_1 : w.heap.size + 1 < w3.heap.size := by omega
  simp only [EndAll, List.nil_append, List.cons_append, List.length_cons, List.length_nil, Nat.zero_add, Nat.reduceAdd, List.take_succ_cons, List.take_zero, List.drop_succ_cons, List.drop_zero, putAll, Act.put, List.setIfInBounds_toArray, List.set_cons_succ, List.set_cons_zero]
  go_wp2_with fail
  refine (toTraffic_any b pv ps _ (HP.out.new (by repeat (first | with_reducible exact New.refl _ | with_reducible assumption | with_reducible refine New.drew ?_ | with_reducible refine New.drewN ?_ _ | with_reducible refine New.alloc ?_ _ | with_reducible refine New.setCell ?_ (by first | (simp; done) | (simp; omega) | omega) _ | with_reducible refine New.trans ?_ (by with_reducible assumption)))) hlp).mono ?_; rintro e w4 ⟨p4, rfl, b4, o4p⟩
  obtain ⟨pa, pc, rfl⟩ := own_slice o4p
  obtain ⟨c4, f4⟩ := b4.rules
  have z4 := b4.size
  try simp only [World.size_alloc, World.size_drew, World.heap_drewN, World.size_setCell] at z4
  have z4_0 : w.heap.size < w4.heap.size := by omega
  have z4_1 : w.heap.size + 1 < w4.heap.size := by omega
  go_wp2_with fail
  refine (toReport_any u v f s _ (HU.out.new (by repeat (first | with_reducible exact New.refl _ | with_reducible assumption | with_reducible refine New.drew ?_ | with_reducible refine New.drewN ?_ _ | with_reducible refine New.alloc ?_ _ | with_reducible refine New.setCell ?_ (by first | (simp; done) | (simp; omega) | omega) _ | with_reducible refine New.trans ?_ (by with_reducible assumption)))) (HV.out.new (by repeat (first | with_reducible exact New.refl _ | with_reducible assumption | with_reducible refine New.drew ?_ | with_reducible refine New.drewN ?_ _ | with_reducible refine New.alloc ?_ _ | with_reducible refine New.setCell ?_ (by first | (simp; done) | (simp; omega) | omega) _ | with_reducible refine New.trans ?_ (by with_reducible assumption)))) hlf hls).mono ?_; rintro e w5 ⟨u4, v4, rfl, b5, o4u, o4v, B4, hBB4, hB4, o4w⟩
  obtain ⟨ua, uc, rfl⟩ := own_slice o4u; obtain ⟨va, vc, rfl⟩ := own_slice o4v
  obtain ⟨c5, f5⟩ := b5.rules
  have z5 := b5.size
  try simp only [World.size_alloc, World.size_drew, World.heap_drewN, World.size_setCell] at z5
  have z5_0 : w.heap.size < w5.heap.size := by omega
  have z5_1 : w.heap.size + 1 < w5.heap.size := by omega
  have z5_2 : w4.heap.size < w5.heap.size := by omega
  go_wp2_with fail
  refine (HI.out _ _ _ _ (RdI.new (own_rd o4p) (by repeat (first | with_reducible exact New.refl _ | with_reducible assumption | with_reducible refine New.drew ?_ | with_reducible refine New.drewN ?_ _ | with_reducible refine New.alloc ?_ _ | with_reducible refine New.setCell ?_ (by first | (simp; done) | (simp; omega) | omega) _ | with_reducible refine New.trans ?_ (by with_reducible assumption)))) (RdI.new (own_rd o4u) (by repeat (first | with_reducible exact New.refl _ | with_reducible assumption | with_reducible refine New.drew ?_ | with_reducible refine New.drewN ?_ _ | with_reducible refine New.alloc ?_ _ | with_reducible refine New.setCell ?_ (by first | (simp; done) | (simp; omega) | omega) _ | with_reducible refine New.trans ?_ (by with_reducible assumption)))) (RdI.new (own_rd o4v) (by repeat (first | with_reducible exact New.refl _ | with_reducible assumption | with_reducible refine New.drew ?_ | with_reducible refine New.drewN ?_ _ | with_reducible refine New.alloc ?_ _ | with_reducible refine New.setCell ?_ (by first | (simp; done) | (simp; omega) | omega) _ | with_reducible refine New.trans ?_ (by with_reducible assumption))))).mono ?_; rintro e w6 ⟨r5, rfl, b6, o5⟩
  obtain ⟨c6, f6⟩ := b6.rules
  have z6 := b6.size
  try simp only [World.size_alloc, World.size_drew, World.heap_drewN, World.size_setCell] at z6
  have z6_0 : w.heap.size < w6.heap.size := by omega
  have z6_1 : w.heap.size + 1 < w6.heap.size := by omega
  have z6_2 : w4.heap.size < w6.heap.size := by omega
  have z6_3 : w5.heap.size < w6.heap.size := by omega
  go_wp2_with fail
  refine (eqInt64S_any _ _ L L _ (own_rd o5) (RdI.new (show RdI w3 x8 L from h8) (by repeat (first | with_reducible exact New.refl _ | with_reducible assumption | with_reducible refine New.drew ?_ | with_reducible refine New.drewN ?_ _ | with_reducible refine New.alloc ?_ _ | with_reducible refine New.setCell ?_ (by first | (simp; done) | (simp; omega) | omega) _ | with_reducible refine New.trans ?_ (by with_reducible assumption))))).mono ?_; rintro e w7 ⟨rfl, n7, rfl⟩
  go_wp2_with fail
  have k80 : w6.cell? ⟨w4.heap.size, 0, none⟩ = some (.int .i64 b) := by simp (disch := first | (simp only [World.size_alloc, World.size_drew, World.size_setCell]; omega) | omega | (simp; done) | (simp; omega)) only [c6, c5, c4, c3, c2, c1, cell_alloc_old, cell_alloc_new, World.cell?_drewN, World.cell?_drew]; first | done | rfl | (simp; done)
  have k81 : w6.cell? ⟨w4.heap.size, 1, none⟩ = some (.slice pa ps.length pc) := by simp (disch := first | (simp only [World.size_alloc, World.size_drew, World.size_setCell]; omega) | omega | (simp; done) | (simp; omega)) only [c6, c5, c4, c3, c2, c1, cell_alloc_old, cell_alloc_new, World.cell?_drewN, World.cell?_drew]; first | done | rfl | (simp; done)
  have k90 : w6.cell? ⟨w5.heap.size, 0, none⟩ = some (.slice ua f.length uc) := by simp (disch := first | (simp only [World.size_alloc, World.size_drew, World.size_setCell]; omega) | omega | (simp; done) | (simp; omega)) only [c6, c5, c4, c3, c2, c1, cell_alloc_old, cell_alloc_new, World.cell?_drewN, World.cell?_drew]; first | done | rfl | (simp; done)
  have k91 : w6.cell? ⟨w5.heap.size, 1, none⟩ = some (.slice va s.length vc) := by simp (disch := first | (simp only [World.size_alloc, World.size_drew, World.size_setCell]; omega) | omega | (simp; done) | (simp; omega)) only [c6, c5, c4, c3, c2, c1, cell_alloc_old, cell_alloc_new, World.cell?_drewN, World.cell?_drew]; first | done | rfl | (simp; done)
  have k20 : w6.cell? ⟨w.heap.size, 0, none⟩ = some (.int .i64 b) := by simp (disch := first | (simp only [World.size_alloc, World.size_drew, World.size_setCell]; omega) | omega | (simp; done) | (simp; omega)) only [c6, c5, c4, c3, c2, c1, cell_alloc_old, cell_alloc_new, World.cell?_drewN, World.cell?_drew]; first | done | rfl | (simp; done)
  have k21 : w6.cell? ⟨w.heap.size, 1, none⟩ = some (pv) := by simp (disch := first | (simp only [World.size_alloc, World.size_drew, World.size_setCell]; omega) | omega | (simp; done) | (simp; omega)) only [c6, c5, c4, c3, c2, c1, cell_alloc_old, cell_alloc_new, World.cell?_drewN, World.cell?_drew]; first | done | rfl | (simp; done)
  have k30 : w6.cell? ⟨w.heap.size + 1, 0, none⟩ = some (u) := by simp (disch := first | (simp only [World.size_alloc, World.size_drew, World.size_setCell]; omega) | omega | (simp; done) | (simp; omega)) only [c6, c5, c4, c3, c2, c1, cell_alloc_old, cell_alloc_new, World.cell?_drewN, World.cell?_drew]; first | done | rfl | (simp; done)
  have k31 : w6.cell? ⟨w.heap.size + 1, 1, none⟩ = some (v) := by simp (disch := first | (simp only [World.size_alloc, World.size_drew, World.size_setCell]; omega) | omega | (simp; done) | (simp; omega)) only [c6, c5, c4, c3, c2, c1, cell_alloc_old, cell_alloc_new, World.cell?_drewN, World.cell?_drew]; first | done | rfl | (simp; done)
  refine wp_facts [fun X _ => X = .agg #[.int .i64 b, .slice pa ps.length pc], fun X _ => X = .agg #[.int .i64 b, pv], fun X W' => ∃ q, X = .agg #[.int .i64 b, q] ∧ RdI W' q ps, fun X _ => X = .bool true, fun X _ => X = .bool false] (by kernel_rfl) (by kernel_rfl) ⟨stable_eq _, stable_eq _, fun X w0 w1 hn ⟨q1, t56, r1⟩ => ⟨q1, t56, r1.new hn⟩, stable_eq _, stable_eq _, trivial⟩ ?_ ?_
  · refine ⟨?_, ?_, ?_, ?_, ?_, trivial⟩
    · intro a w9 hw ho hk
      have t2 := ho 8 rfl
      dsimp at t2
      try with_reducible replace hw := New.undrawN hw
      try with_reducible replace hw := New.undraw hw
      obtain ⟨c, f'⟩ := hw.rules
      go_simp
      exact New.refl _
    · intro a w9 hw ho hk
      have t2 := ho 2 rfl
      dsimp at t2
      try with_reducible replace hw := New.undrawN hw
      try with_reducible replace hw := New.undraw hw
      obtain ⟨c, f'⟩ := hw.rules
      go_simp
      exact New.refl _
    · intro a w9 hw ho hk
      have t55 : a.tmps[55]?.getD undef = .agg #[.int .i64 b, pv] := hk 1 55 (by kernel_rfl) rfl
      go_simp
      refine (toTraffic_any b pv ps _ (HP.out.new (by repeat (first | with_reducible exact New.refl _ | with_reducible assumption | with_reducible refine New.drew ?_ | with_reducible refine New.drewN ?_ _ | with_reducible refine New.alloc ?_ _ | with_reducible refine New.setCell ?_ (by first | (simp; done) | (simp; omega) | omega) _ | with_reducible refine New.trans ?_ (by with_reducible assumption)))) hlp).mono ?_; rintro e w2 ⟨q, rfl, hb, o⟩
      exact ⟨hb, _, rfl, _, rfl, own_rd o⟩
    · intro a w9 hw ho hk
      have t54 : a.tmps[54]?.getD undef = .agg #[.int .i64 b, .slice pa ps.length pc] := hk 0 54 (by kernel_rfl) rfl
      obtain ⟨q1, t56, r1⟩ : ∃ q, (a.tmps[56]?.getD undef) = .agg #[.int .i64 b, q] ∧ RdI w9 q ps := hk 2 56 (by kernel_rfl) rfl
      go_simp
      refine (eqTraffic_any _ _ _ _ ps ps _ (RdI.new (own_rd o4p) (by repeat (first | with_reducible exact New.refl _ | with_reducible assumption | with_reducible refine New.drew ?_ | with_reducible refine New.drewN ?_ _ | with_reducible refine New.alloc ?_ _ | with_reducible refine New.setCell ?_ (by first | (simp; done) | (simp; omega) | omega) _ | with_reducible refine New.trans ?_ (by with_reducible assumption)))) r1).mono ?_; rintro e w2 ⟨rfl, hb⟩
      first | exact ⟨hb, _, rfl, by simp⟩ | exact ⟨hb, by simp⟩
    · intro a w9 hw ho hk
      have t57 : a.tmps[57]?.getD undef = .bool true := hk 3 57 (by kernel_rfl) rfl
      go_simp
      exact New.refl _
  intro w8 b8 x0 h0 x1 h1 x2 h2 x3 h3 x4 h4
  subst h0 h1 h3 h4
  try with_reducible replace b8 := New.undrawN b8
  try with_reducible replace b8 := New.undraw b8
  obtain ⟨c8, f8⟩ := b8.rules
  have z8 := b8.size
  try simp only [World.size_alloc, World.size_drew, World.heap_drewN, World.size_setCell] at z8
  have z8_0 : w.heap.size < w8.heap.size := by omega
  have z8_1 : w.heap.size + 1 < w8.heap.size := by omega
  have z8_2 : w4.heap.size < w8.heap.size := by omega
  have z8_3 : w5.heap.size < w8.heap.size := by omega
  simp only [EndAll, List.nil_append, List.cons_append, List.length_cons, List.length_nil, Nat.zero_add, Nat.reduceAdd, List.take_succ_cons, List.take_zero, List.drop_succ_cons, List.drop_zero, putAll, Act.put, List.setIfInBounds_toArray, List.set_cons_succ, List.set_cons_zero]
  go_wp2_with fail
  have m90 : w8.cell? ⟨w5.heap.size, 0, none⟩ = some (.slice ua f.length uc) := by simp (disch := first | (simp only [World.size_alloc, World.size_drew, World.size_setCell]; omega) | omega | (simp; done) | (simp; omega)) only [c8, k90, cell_alloc_old, cell_alloc_new, World.cell?_drewN, World.cell?_drew]; first | done | rfl | (simp; done)
  have m91 : w8.cell? ⟨w5.heap.size, 1, none⟩ = some (.slice va s.length vc) := by simp (disch := first | (simp only [World.size_alloc, World.size_drew, World.size_setCell]; omega) | omega | (simp; done) | (simp; omega)) only [c8, k91, cell_alloc_old, cell_alloc_new, World.cell?_drewN, World.cell?_drew]; first | done | rfl | (simp; done)
  have m20 : w8.cell? ⟨w.heap.size, 0, none⟩ = some (.int .i64 b) := by simp (disch := first | (simp only [World.size_alloc, World.size_drew, World.size_setCell]; omega) | omega | (simp; done) | (simp; omega)) only [c8, k20, cell_alloc_old, cell_alloc_new, World.cell?_drewN, World.cell?_drew]; first | done | rfl | (simp; done)
  have m21 : w8.cell? ⟨w.heap.size, 1, none⟩ = some (pv) := by simp (disch := first | (simp only [World.size_alloc, World.size_drew, World.size_setCell]; omega) | omega | (simp; done) | (simp; omega)) only [c8, k21, cell_alloc_old, cell_alloc_new, World.cell?_drewN, World.cell?_drew]; first | done | rfl | (simp; done)
  have m30 : w8.cell? ⟨w.heap.size + 1, 0, none⟩ = some (u) := by simp (disch := first | (simp only [World.size_alloc, World.size_drew, World.size_setCell]; omega) | omega | (simp; done) | (simp; omega)) only [c8, k30, cell_alloc_old, cell_alloc_new, World.cell?_drewN, World.cell?_drew]; first | done | rfl | (simp; done)
  have m31 : w8.cell? ⟨w.heap.size + 1, 1, none⟩ = some (v) := by simp (disch := first | (simp only [World.size_alloc, World.size_drew, World.size_setCell]; omega) | omega | (simp; done) | (simp; omega)) only [c8, k31, cell_alloc_old, cell_alloc_new, World.cell?_drewN, World.cell?_drew]; first | done | rfl | (simp; done)
  refine wp_facts [fun X _ => X = .agg #[.slice ua f.length uc, .slice va s.length vc], fun X _ => X = .agg #[u, v], fun X W' => ∃ p q, X = .agg #[p, q] ∧ RdI W' p f ∧ RdI W' q s, fun X _ => X = .bool true, fun X _ => X = .bool false] (by kernel_rfl) (by kernel_rfl) ⟨stable_eq _, stable_eq _, fun X w0 w1 hn ⟨q2, q3, t61, r2, r3⟩ => ⟨q2, q3, t61, r2.new hn, r3.new hn⟩, stable_eq _, stable_eq _, trivial⟩ ?_ ?_
  · refine ⟨?_, ?_, ?_, ?_, ?_, trivial⟩
    · intro a w9 hw ho hk
      have t2 := ho 9 rfl
      dsimp at t2
      try with_reducible replace hw := New.undrawN hw
      try with_reducible replace hw := New.undraw hw
      obtain ⟨c, f'⟩ := hw.rules
      go_simp
      exact New.refl _
    · intro a w9 hw ho hk
      have t2 := ho 3 rfl
      dsimp at t2
      try with_reducible replace hw := New.undrawN hw
      try with_reducible replace hw := New.undraw hw
      obtain ⟨c, f'⟩ := hw.rules
      go_simp
      exact New.refl _
    · intro a w9 hw ho hk
      have t60 : a.tmps[60]?.getD undef = .agg #[u, v] := hk 1 60 (by kernel_rfl) rfl
      go_simp
      refine (toReport_any u v f s _ (HU.out.new (by repeat (first | with_reducible exact New.refl _ | with_reducible assumption | with_reducible refine New.drew ?_ | with_reducible refine New.drewN ?_ _ | with_reducible refine New.alloc ?_ _ | with_reducible refine New.setCell ?_ (by first | (simp; done) | (simp; omega) | omega) _ | with_reducible refine New.trans ?_ (by with_reducible assumption)))) (HV.out.new (by repeat (first | with_reducible exact New.refl _ | with_reducible assumption | with_reducible refine New.drew ?_ | with_reducible refine New.drewN ?_ _ | with_reducible refine New.alloc ?_ _ | with_reducible refine New.setCell ?_ (by first | (simp; done) | (simp; omega) | omega) _ | with_reducible refine New.trans ?_ (by with_reducible assumption)))) hlf hls).mono ?_; rintro e w2 ⟨p, q, rfl, hb, o1, o2, _⟩
      exact ⟨hb, _, rfl, _, _, rfl, own_rd o1, own_rd o2⟩
    · intro a w9 hw ho hk
      have t59 : a.tmps[59]?.getD undef = .agg #[.slice ua f.length uc, .slice va s.length vc] := hk 0 59 (by kernel_rfl) rfl
      obtain ⟨q2, q3, t61, r2, r3⟩ : ∃ p q, (a.tmps[61]?.getD undef) = .agg #[p, q] ∧ RdI w9 p f ∧ RdI w9 q s := hk 2 61 (by kernel_rfl) rfl
      go_simp
      refine (eqReport_any _ _ _ _ f s f s _ (RdI.new (own_rd o4u) (by repeat (first | with_reducible exact New.refl _ | with_reducible assumption | with_reducible refine New.drew ?_ | with_reducible refine New.drewN ?_ _ | with_reducible refine New.alloc ?_ _ | with_reducible refine New.setCell ?_ (by first | (simp; done) | (simp; omega) | omega) _ | with_reducible refine New.trans ?_ (by with_reducible assumption)))) (RdI.new (own_rd o4v) (by repeat (first | with_reducible exact New.refl _ | with_reducible assumption | with_reducible refine New.drew ?_ | with_reducible refine New.drewN ?_ _ | with_reducible refine New.alloc ?_ _ | with_reducible refine New.setCell ?_ (by first | (simp; done) | (simp; omega) | omega) _ | with_reducible refine New.trans ?_ (by with_reducible assumption)))) r2 r3).mono ?_; rintro e w2 ⟨rfl, hb⟩
      first | exact ⟨hb, _, rfl, by simp⟩ | exact ⟨hb, by simp⟩
    · intro a w9 hw ho hk
      have t62 : a.tmps[62]?.getD undef = .bool true := hk 3 62 (by kernel_rfl) rfl
      go_simp
      exact New.refl _
  intro w9 b9 x0 h0 x1 h1 x2 h2 x3 h3 x4 h4
  subst h0 h1 h3 h4
  try with_reducible replace b9 := New.undrawN b9
  try with_reducible replace b9 := New.undraw b9
  obtain ⟨c9, f9⟩ := b9.rules
  have z9 := b9.size
  try simp only [World.size_alloc, World.size_drew, World.heap_drewN, World.size_setCell] at z9
  have z9_0 : w.heap.size < w9.heap.size := by omega
  have z9_1 : w.heap.size + 1 < w9.heap.size := by omega
  have z9_2 : w4.heap.size < w9.heap.size := by omega
  have z9_3 : w5.heap.size < w9.heap.size := by omega
  have hpb := own_block_lt o4p
  have hub := own_block_lt o4u
  have hvb := own_block_lt o4w
  have hvb' := own_block_lt o4v
  have m80 : w9.cell? ⟨w4.heap.size, 0, none⟩ = some (.int .i64 b) := by simp (disch := first | (simp only [World.size_alloc, World.size_drew, World.size_setCell]; omega) | omega | (simp; done) | (simp; omega)) only [c9, c8, k80, cell_alloc_old, cell_alloc_new, World.cell?_drewN, World.cell?_drew]; first | done | rfl | (simp; done)
  have m81 : w9.cell? ⟨w4.heap.size, 1, none⟩ = some (.slice pa ps.length pc) := by simp (disch := first | (simp only [World.size_alloc, World.size_drew, World.size_setCell]; omega) | omega | (simp; done) | (simp; omega)) only [c9, c8, k81, cell_alloc_old, cell_alloc_new, World.cell?_drewN, World.cell?_drew]; first | done | rfl | (simp; done)
  have n90 : w9.cell? ⟨w5.heap.size, 0, none⟩ = some (.slice ua f.length uc) := by simp (disch := first | (simp only [World.size_alloc, World.size_drew, World.size_setCell]; omega) | omega | (simp; done) | (simp; omega)) only [c9, m90, cell_alloc_old, cell_alloc_new, World.cell?_drewN, World.cell?_drew]; first | done | rfl | (simp; done)
  have n91 : w9.cell? ⟨w5.heap.size, 1, none⟩ = some (.slice va s.length vc) := by simp (disch := first | (simp only [World.size_alloc, World.size_drew, World.size_setCell]; omega) | omega | (simp; done) | (simp; omega)) only [c9, m91, cell_alloc_old, cell_alloc_new, World.cell?_drewN, World.cell?_drew]; first | done | rfl | (simp; done)
  simp only [World.size_alloc] at hub hvb hvb'
  simp only [EndAll, List.nil_append, List.cons_append, List.length_cons, List.length_nil, Nat.zero_add, Nat.reduceAdd, List.take_succ_cons, List.take_zero, List.drop_succ_cons, List.drop_zero, putAll, Act.put, List.setIfInBounds_toArray, List.set_cons_succ, List.set_cons_zero]
  go_wp2_with fail
  refine (markTraffic_any b _ ps w3.heap.size w4.heap.size 1 _ (own_new o4p (show New w4 w9 by exact (by repeat (first | with_reducible exact New.refl _ | with_reducible assumption | with_reducible refine New.drew ?_ | with_reducible refine New.drewN ?_ _ | with_reducible refine New.alloc ?_ _ | with_reducible refine New.setCell ?_ (by first | (simp; done) | (simp; omega) | omega) _ | with_reducible refine New.trans ?_ (by with_reducible assumption))))) (by omega) hlp (fun k hk => (hpb k hk).2) (by omega)).mono ?_
  rintro e w10 ⟨rfl, t10⟩
  have b10 : New w3 w10 := t10.new (show New w3 w9 by exact (by repeat (first | with_reducible exact New.refl _ | with_reducible assumption | with_reducible refine New.drew ?_ | with_reducible refine New.drewN ?_ _ | with_reducible refine New.alloc ?_ _ | with_reducible refine New.setCell ?_ (by first | (simp; done) | (simp; omega) | omega) _ | with_reducible refine New.trans ?_ (by with_reducible assumption)))) (Nat.le_refl _)
  have z10 := b10.size
  have z10' := t10.1.size
  have p90 := (t10.above (b := w5.heap.size) (o := 0) (by omega) (by omega)).trans n90
  have p91 := (t10.above (b := w5.heap.size) (o := 1) (by omega) (by omega)).trans n91
  have u10 := t10.own (own_new o4u (show New w5 w9 by exact (by repeat (first | with_reducible exact New.refl _ | with_reducible assumption | with_reducible refine New.drew ?_ | with_reducible refine New.drewN ?_ _ | with_reducible refine New.alloc ?_ _ | with_reducible refine New.setCell ?_ (by first | (simp; done) | (simp; omega) | omega) _ | with_reducible refine New.trans ?_ (by with_reducible assumption))))) (by simp only [World.size_alloc]; omega)
  have v10 := t10.own (own_new o4w (show New w5 w9 by exact (by repeat (first | with_reducible exact New.refl _ | with_reducible assumption | with_reducible refine New.drew ?_ | with_reducible refine New.drewN ?_ _ | with_reducible refine New.alloc ?_ _ | with_reducible refine New.setCell ?_ (by first | (simp; done) | (simp; omega) | omega) _ | with_reducible refine New.trans ?_ (by with_reducible assumption))))) (by simp only [World.size_alloc] at hBB4; omega)
  have r10 := t10.own (own_new o5 (show New w6 w9 by exact (by repeat (first | with_reducible exact New.refl _ | with_reducible assumption | with_reducible refine New.drew ?_ | with_reducible refine New.drewN ?_ _ | with_reducible refine New.alloc ?_ _ | with_reducible refine New.setCell ?_ (by first | (simp; done) | (simp; omega) | omega) _ | with_reducible refine New.trans ?_ (by with_reducible assumption))))) (by simp only [World.size_alloc]; omega)
  go_wp2_with fail
  simp only [World.size_alloc] at u10
  refine (markReport_any _ _ f s (w4.heap.size + 1) B4 w5.heap.size (1 + ps.length) _ u10 v10 (by simp only [World.size_alloc] at hBB4; omega) (by omega) hlf hls (fun k hk => ⟨(hub k hk).2, hB4 k hk⟩) (fun k hk => (hvb k hk).2) (by omega) (by omega)).mono ?_
  rintro e w11 ⟨rfl, t11⟩
  have b11 : New w3 w11 := t11.new b10 (by omega)
  have r11 := t11.own r10 (by simp only [World.size_alloc]; omega)
  have z11 := b11.size
  go_wp2_with fail
  refine (eqInt64S_any _ _ L L _ (own_rd r11) (RdI.new (show RdI w3 x8 L from h8) b11)).mono ?_; rintro e w12 ⟨rfl, n12, rfl⟩
  go_wp2_with fail
  refine (markInt64S_any _ L _ 1 _ (own_new r11 (New.drewN (New.refl _) _)) hlL (by omega)).mono ?_
  rintro e w13 ⟨rfl, on13, own13⟩
  have b13 : New w3 w13 := on13.new (b11.drewN n12) (fun k hk => by have := (own_block_lt r11 k hk).1; simp only [World.size_alloc] at this; omega)
  obtain ⟨c13, f13⟩ := b13.rules
  have z13 := b13.size
  have z13_0 : w.heap.size < w13.heap.size := by omega
  have z13_1 : w.heap.size + 1 < w13.heap.size := by omega
  have rd13 : RdI w13 r5 (marks 1 L.length) := by have := own_rd own13; rwa [RdI, marks_length]
  clear on13
  go_wp2_with fail
  refine (heldInt64S_any _ 1 L.length _ rd13 hlL (by omega)).mono ?_; rintro e w14 ⟨rfl, rfl⟩
  go_wp2_with fail
  have q20 : w13.cell? ⟨w.heap.size, 0, none⟩ = some (.int .i64 b) := by simp (disch := first | (simp only [World.size_alloc, World.size_drew, World.size_setCell]; omega) | omega | (simp; done) | (simp; omega)) only [c13, c3, c2, c1, cell_alloc_old, cell_alloc_new, World.cell?_drewN, World.cell?_drew]; first | done | rfl | (simp; done)
  have q21 : w13.cell? ⟨w.heap.size, 1, none⟩ = some (pv) := by simp (disch := first | (simp only [World.size_alloc, World.size_drew, World.size_setCell]; omega) | omega | (simp; done) | (simp; omega)) only [c13, c3, c2, c1, cell_alloc_old, cell_alloc_new, World.cell?_drewN, World.cell?_drew]; first | done | rfl | (simp; done)
  have q30 : w13.cell? ⟨w.heap.size + 1, 0, none⟩ = some (u) := by simp (disch := first | (simp only [World.size_alloc, World.size_drew, World.size_setCell]; omega) | omega | (simp; done) | (simp; omega)) only [c13, c3, c2, c1, cell_alloc_old, cell_alloc_new, World.cell?_drewN, World.cell?_drew]; first | done | rfl | (simp; done)
  have q31 : w13.cell? ⟨w.heap.size + 1, 1, none⟩ = some (v) := by simp (disch := first | (simp only [World.size_alloc, World.size_drew, World.size_setCell]; omega) | omega | (simp; done) | (simp; omega)) only [c13, c3, c2, c1, cell_alloc_old, cell_alloc_new, World.cell?_drewN, World.cell?_drew]; first | done | rfl | (simp; done)
  refine wp_facts [fun X _ => X = .agg #[.int .i64 b, pv], fun X W' => ∃ q, X = .agg #[.int .i64 b, q] ∧ RdI W' q ps, fun X _ => X = .agg #[u, v], fun X W' => ∃ p q, X = .agg #[p, q] ∧ RdI W' p f ∧ RdI W' q s, fun X W' => ∃ r, X = .tuple #[r, .int .i64 C] ∧ RdI W' r L, fun X W' => ∃ r, X = .tuple #[r, .int .i64 C] ∧ RdI W' r L, fun X W' => RdI W' X L, fun X _ => X = .int .i64 C, fun X W' => RdI W' X L, fun X _ => X = .int .i64 C] (by kernel_rfl) (by kernel_rfl) ⟨stable_eq _, fun X w0 w1 hn ⟨q1, t96, r1⟩ => ⟨q1, t96, r1.new hn⟩, stable_eq _, fun X w0 w1 hn ⟨q2, q3, t98, r2, r3⟩ => ⟨q2, q3, t98, r2.new hn, r3.new hn⟩, fun X w0 w1 hn ⟨q4, t99, r4⟩ => ⟨q4, t99, r4.new hn⟩, fun X w0 w1 hn ⟨q5, t94, r5'⟩ => ⟨q5, t94, r5'.new hn⟩, fun X w0 w1 hn r6 => r6.new hn, stable_eq _, fun X w0 w1 hn r7 => r7.new hn, stable_eq _, trivial⟩ ?_ ?_
  · refine ⟨?_, ?_, ?_, ?_, ?_, ?_, ?_, ?_, ?_, ?_, trivial⟩
    · intro a w9 hw ho hk
      have t2 := ho 2 rfl
      dsimp at t2
      try with_reducible replace hw := New.undrawN hw
      try with_reducible replace hw := New.undraw hw
      obtain ⟨c, f'⟩ := hw.rules
      go_simp
      exact New.refl _
    · intro a w9 hw ho hk
      have t95 : a.tmps[95]?.getD undef = .agg #[.int .i64 b, pv] := hk 0 95 (by kernel_rfl) rfl
      go_simp
      refine (toTraffic_any b pv ps _ (HP.out.new (by repeat (first | with_reducible exact New.refl _ | with_reducible assumption | with_reducible refine New.drew ?_ | with_reducible refine New.drewN ?_ _ | with_reducible refine New.alloc ?_ _ | with_reducible refine New.setCell ?_ (by first | (simp; done) | (simp; omega) | omega) _ | with_reducible refine New.trans ?_ (by with_reducible assumption)))) hlp).mono ?_; rintro e w2 ⟨q, rfl, hb, o⟩
      exact ⟨hb, _, rfl, _, rfl, own_rd o⟩
    · intro a w9 hw ho hk
      have t2 := ho 3 rfl
      dsimp at t2
      try with_reducible replace hw := New.undrawN hw
      try with_reducible replace hw := New.undraw hw
      obtain ⟨c, f'⟩ := hw.rules
      go_simp
      exact New.refl _
    · intro a w9 hw ho hk
      have t97 : a.tmps[97]?.getD undef = .agg #[u, v] := hk 2 97 (by kernel_rfl) rfl
      go_simp
      refine (toReport_any u v f s _ (HU.out.new (by repeat (first | with_reducible exact New.refl _ | with_reducible assumption | with_reducible refine New.drew ?_ | with_reducible refine New.drewN ?_ _ | with_reducible refine New.alloc ?_ _ | with_reducible refine New.setCell ?_ (by first | (simp; done) | (simp; omega) | omega) _ | with_reducible refine New.trans ?_ (by with_reducible assumption)))) (HV.out.new (by repeat (first | with_reducible exact New.refl _ | with_reducible assumption | with_reducible refine New.drew ?_ | with_reducible refine New.drewN ?_ _ | with_reducible refine New.alloc ?_ _ | with_reducible refine New.setCell ?_ (by first | (simp; done) | (simp; omega) | omega) _ | with_reducible refine New.trans ?_ (by with_reducible assumption)))) hlf hls).mono ?_; rintro e w2 ⟨p, q, rfl, hb, o1, o2, _⟩
      exact ⟨hb, _, rfl, _, _, rfl, own_rd o1, own_rd o2⟩
    · intro a w9 hw ho hk
      obtain ⟨q1, t96, r1⟩ : ∃ q, (a.tmps[96]?.getD undef) = .agg #[.int .i64 b, q] ∧ RdI w9 q ps := hk 1 96 (by kernel_rfl) rfl
      obtain ⟨q2, q3, t98, r2, r3⟩ : ∃ p q, (a.tmps[98]?.getD undef) = .agg #[p, q] ∧ RdI w9 p f ∧ RdI w9 q s := hk 3 98 (by kernel_rfl) rfl
      go_simp
      refine (HI.out q1 q2 q3 _ r1 r2 r3).mono ?_; rintro e w2 ⟨r, rfl, hb, o⟩
      exact ⟨hb, _, rfl, _, rfl, own_rd o⟩
    · intro a w9 hw ho hk
      obtain ⟨q4, t99, r4⟩ : ∃ r, (a.tmps[99]?.getD undef) = .tuple #[r, .int .i64 C] ∧ RdI w9 r L := hk 4 99 (by kernel_rfl) rfl
      go_simp
      exact ⟨New.refl _, _, rfl, _, rfl, r4⟩
    · intro a w9 hw ho hk
      obtain ⟨q5, t94, r5'⟩ : ∃ r, (a.tmps[94]?.getD undef) = .tuple #[r, .int .i64 C] ∧ RdI w9 r L := hk 5 94 (by kernel_rfl) rfl
      go_simp
      exact ⟨New.refl _, _, rfl, r5'⟩
    · intro a w9 hw ho hk
      obtain ⟨q5, t94, r5'⟩ : ∃ r, (a.tmps[94]?.getD undef) = .tuple #[r, .int .i64 C] ∧ RdI w9 r L := hk 5 94 (by kernel_rfl) rfl
      go_simp
      exact New.refl _
    · intro a w9 hw ho hk
      obtain r6 : RdI w9 (a.tmps[100]?.getD undef) L := hk 6 100 (by kernel_rfl) rfl
      go_simp
      exact ⟨New.refl _, _, rfl, r6⟩
    · intro a w9 hw ho hk
      have t101 : a.tmps[101]?.getD undef = .int .i64 C := hk 7 101 (by kernel_rfl) rfl
      go_simp
      exact New.refl _
  intro w15 b15 y0 g0 y1 g1 y2 g2 y3 g3 y4 g4 y5 g5 y6 g6 y7 g7 y8 g8 y9 g9
  subst g0 g2 g7 g9
  obtain ⟨e3, rfl, _⟩ := g5
  obtain ⟨e3', rfl, _⟩ := g4
  clear g6
  try with_reducible replace b15 := New.undrawN b15
  try with_reducible replace b15 := New.undraw b15
  obtain ⟨c15, f15⟩ := b15.rules
  have z15 := b15.size
  try simp only [World.size_alloc, World.size_drew, World.heap_drewN, World.size_setCell] at z15
  have z15_0 : w.heap.size < w15.heap.size := by omega
  have z15_1 : w.heap.size + 1 < w15.heap.size := by omega
  simp only [EndAll, List.nil_append, List.cons_append, List.length_cons, List.length_nil, Nat.zero_add, Nat.reduceAdd, List.take_succ_cons, List.take_zero, List.drop_succ_cons, List.drop_zero, putAll, Act.put, List.setIfInBounds_toArray, List.set_cons_succ, List.set_cons_zero]
  go_wp2_with fail
  refine (eqInt64S_any _ _ L L _ g8 (RdI.new (show RdI w3 x8 L from h8) (by repeat (first | with_reducible exact New.refl _ | with_reducible assumption | with_reducible refine New.drew ?_ | with_reducible refine New.drewN ?_ _ | with_reducible refine New.alloc ?_ _ | with_reducible refine New.setCell ?_ (by first | (simp; done) | (simp; omega) | omega) _ | with_reducible refine New.trans ?_ (by with_reducible assumption))))).mono ?_; rintro e w16 ⟨rfl, n16, rfl⟩
  go_wp2_with fail
  refine (heldInt64S_any _ 1 L.length _ (rd13.new (by repeat (first | with_reducible exact New.refl _ | with_reducible assumption | with_reducible refine New.drew ?_ | with_reducible refine New.drewN ?_ _ | with_reducible refine New.alloc ?_ _ | with_reducible refine New.setCell ?_ (by first | (simp; done) | (simp; omega) | omega) _ | with_reducible refine New.trans ?_ (by with_reducible assumption)))) hlL (by omega)).mono ?_; rintro e w17 ⟨rfl, rfl⟩
  go_wp2_with fail
  go_ret
  exact ⟨rfl, (by repeat (first | with_reducible exact New.refl _ | with_reducible assumption | with_reducible refine New.drew ?_ | with_reducible refine New.drewN ?_ _ | with_reducible refine New.alloc ?_ _ | with_reducible refine New.setCell ?_ (by first | (simp; done) | (simp; omega) | omega) _ | with_reducible refine New.trans ?_ (by with_reducible assumption)))⟩
namespace fnExactPermittedMoves
theorem own : ownKnob Try.prog.godebug = none := by kernel_rfl
theorem reads : (Try.f14.params.toList.all fun t => Try.prog.readableRec t && decide (t < Try.prog.types.size)) = true := by kernel_rfl
set_option maxRecDepth 100000 in
theorem lifted (os : Os) (started : os.Started) (H : Type) (enc : TypeId × Value → H) :
    ReturnsInHanded {} Try.checked os 14 .any (Rows.fnExactPermittedMovesSpec.pre6 enc Try.prog Try.f14 Rows.fnExactPermittedMovesRow.domain false) (Rows.fnExactPermittedMovesSpec.post enc Try.prog Try.f14 false true false false) := by
  refine returnsInHanded_of_change (C := Try.checked) own started (by kernel_rfl) Try.func14
    (ChangeSpec.witness6 (enc := enc) (C := Try.checked) false ⟨#[], #[.agg #[.int .i64 0, .slice none 0 0], .agg #[.slice none 0 0, .slice none 0 0]], []⟩ 8 (by kernel_rfl) (by kernel_rfl) (by kernel_rfl) (by kernel_rfl)) ?_
  intro W base args ds gs before hval0 hW hcnd _
  have hval : ∀ (j : Nat) t v, Try.f14.params[j]? = some t → args[j]? = some v → Value.okWide Try.prog W .any base t v := hval0
  have hW' := hW
  obtain ⟨p, q, hA0, hV, rfl, hfz, hnd⟩ := hW
  have hA : DataW.TrodAll enc Try.prog W 0 (fun _ => true) true Try.f14.params.toList args.toList ds p := hA0
  rw [Try.params14] at hA hval
  obtain ⟨v0, vs0, d0, ds0, p0, q0, hargs, rfl, rfl, h0, r0⟩ := trodAll_cons hA
  obtain ⟨v1, vs1, d1, ds1, p1, q1, rfl, rfl, rfl, h1, r1⟩ := trodAll_cons r0
  obtain ⟨rfl, rfl, rfl⟩ := trodAll_nil r1
  obtain rfl : args = #[v0, v1] := by cases args; simp_all
  have o0 := hval 0 24 v0 rfl rfl
  have o1 := hval 1 78 v1 rfl rfl
  clear hA0 hval hval0
  obtain ⟨rfl, rfl⟩ := trodVars_none hV
  have walk : Calls Try.prog 14 #[v0, v1] W fun e w' => e = .returned (.bool true) ∧ New W w' := by
    obtain ⟨b, s, ps, rfl, h0'⟩ := openTraffic h0 o0
    obtain ⟨u, v, fs, ss, rfl, h1', h2'⟩ := openReport h1 o1
    exact lawPermittedMoves_any b s u v ps fs ss W h0' h1' h2'
  refine walk.mono fun e W' ⟨he, hg⟩ => ?_
  subst he
  exact ⟨_, rfl, law_post laidOut (fun t ht => reads_of reads t ht) (fun n hn => by cases hn) rfl Try.underlying4 hW' rfl hg⟩
theorem proved : Rows.FnExactPermittedMovesSaid :=
  OpenClaim.holds_of_wide 14 Try.f14 rfl rfl rfl rfl rfl rfl rfl ⟨rfl, rfl, rfl, rfl, rfl⟩ rfl rfl rfl rfl rfl (by kernel_rfl) Try.func14 (by kernel_rfl)
    (of_decide_eq_true (by kernel_rfl)) (by unfold Func.isWrapper; first | (rw [if_pos (by decide +kernel)]; kernel_rfl) | (rw [if_neg (by decide +kernel)]; exact ⟨rfl, rfl⟩))
    (fun os started H enc _ => lifted os started H enc)
#print axioms proved
end fnExactPermittedMoves
end Go.Proofs.Ytdhmngmclbaieaa
