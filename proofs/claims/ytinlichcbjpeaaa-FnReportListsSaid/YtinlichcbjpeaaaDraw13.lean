/- Contracts: a traffic and a report drawn from a code. -/
import Derived.WalkSpells
import Derived.Test.YtinlichcbjpeaaaProg
import Derived.Test.YtinlichcbjpeaaaDraw12
import Derived.Test.YtinlichcbjpeaaaRegionD
import Derived.Test.YtinlichcbjpeaaaTraffic
import Derived.Test.YtinlichcbjpeaaaFaults
import Derived.Test.YtinlichcbjpeaaaFaultS
import Derived.Test.YtinlichcbjpeaaaReportO
import Derived.Test.YtinlichcbjpeaaaTol
namespace Go.Proofs.Ytinlichcbjpeaaa
open Go Go.Proofs Go.RowKit
set_option linter.unusedVariables false
set_option linter.unusedSimpArgs false
set_option maxRecDepth 100000
/-- A report in blocks from M on. -/
def RpAt (M : Nat) (w : World) (X : Value) : Prop := ∃ (ua va : Option Addr) (uc vc : Nat) (xs ys : List Int), X = .agg #[.slice ua xs.length uc, .slice va ys.length vc] ∧ RdM2 M w (.slice ua xs.length uc) xs.length (xs.map (Value.int .i64)) ∧ RdM2 M w (.slice va ys.length vc) ys.length (ys.map (Value.int .i64))
theorem RpAt.of {M : Nat} {w : World} {u v : Value} {xs ys : List Int} (hu : RdM2 M w u xs.length (xs.map (Value.int .i64))) (hv : RdM2 M w v ys.length (ys.map (Value.int .i64))) : RpAt M w (.agg #[u, v]) := by
  obtain ⟨ua, uc, rfl⟩ : ∃ a c, u = .slice a xs.length c := by obtain ⟨⟨a, c, h, _⟩, _⟩ := hu; exact ⟨a, c, h⟩
  obtain ⟨va, vc, rfl⟩ : ∃ a c, v = .slice a ys.length c := by obtain ⟨⟨a, c, h, _⟩, _⟩ := hv; exact ⟨a, c, h⟩
  exact ⟨ua, va, uc, vc, xs, ys, rfl, hu, hv⟩
theorem RpAt.dr {S M : Nat} {w w' : World} {X : Value} (h : RpAt M w X) (hd : Dr S w w') (hS : S < M) : RpAt M w' X := by
  obtain ⟨ua, va, uc, vc, xs, ys, rfl, hu, hv⟩ := h
  exact ⟨ua, va, uc, vc, xs, ys, rfl, hu.kept hd.size (fun k h1 h2 => hd.o.other k h2 (by omega)), hv.kept hd.size (fun k h1 h2 => hd.o.other k h2 (by omega))⟩
def DrawPM (w : World) (e : Ending) (w' : World) : Prop := ∃ (n : Int) (s u v : Value) (ps xs ys : List Int), e = .returned (.tuple #[.agg #[.int .i64 n, s], .agg #[u, v]]) ∧ RdI w' s ps ∧ RdI w' u xs ∧ RdI w' v ys ∧ New w w'
set_option maxHeartbeats 4000000 in
theorem drawPermittedMoves_any (v : Value) (bs : List Int) (w : World) (hv : Rd w v bs.length (bs.map (Value.int .u8))) (hl : bs.length ≤ 4096) (hb : ∀ c ∈ bs, 0 ≤ c ∧ c ≤ 255) :
    Calls Try.prog 17 #[v] w (DrawPM w) := by
  have HV := Lib.hid hv
  have HB := Lib.hid hb
  clear hv hb
  go_enter Try.func17, Try.ntmps17
  go_wp2_with fail
  refine (l01From_any w.heap.size v bs _ (rdB_new HV.out (by repeat (first | with_reducible exact New.refl _ | with_reducible assumption | with_reducible refine New.drew ?_ | with_reducible refine New.drewN ?_ _ | with_reducible refine New.alloc ?_ _ | with_reducible refine New.setCell ?_ (by first | (simp; done) | (simp; omega) | omega) _ | with_reducible refine New.trans ?_ (by with_reducible assumption)))) (by first | (simp; done) | (simp; omega)) hl HB.out).mono ?_
  rintro e w1 ⟨S, rfl, hS0, n1, hs⟩
  have b1 := Dr.of_new (S := S) n1; have hS := hs.lt; replace hs := Lib.hid hs; simp only [World.size_alloc] at hS0
  have z1 := b1.size
  try simp only [World.size_alloc, World.size_drew, World.heap_drewN, World.size_setCell] at z1
  have z1_0 : w.heap.size < w1.heap.size := by omega
  apply Blk.use (w := w1) (b := w.heap.size)
  · repeat (first | with_reducible assumption | with_reducible exact Blk.alloc_at (by first | rfl | (simp; done) | (simp; omega)) | with_reducible apply Blk.alloc | with_reducible apply Blk.drew | with_reducible apply Blk.drewN | with_reducible apply Blk.set | ((with_reducible apply Blk.set_ne); rotate_left; (focus omega)) | ((with_reducible apply Blk.dr); rotate_left; (focus (with_reducible assumption)); (focus omega)) | ((with_reducible apply Blk.new); rotate_left; (focus (with_reducible assumption))))
  intro K1_0
  try simp only [List.setIfInBounds_toArray, List.set_cons_succ, List.set_cons_zero] at K1_0
  obtain ⟨c1_0, f1_0⟩ := K1_0.rules
  have z1_1 : w.heap.size + 1 < w1.heap.size := by omega
  apply Blk.use (w := w1) (b := w.heap.size + 1)
  · repeat (first | with_reducible assumption | with_reducible exact Blk.alloc_at (by first | rfl | (simp; done) | (simp; omega)) | with_reducible apply Blk.alloc | with_reducible apply Blk.drew | with_reducible apply Blk.drewN | with_reducible apply Blk.set | ((with_reducible apply Blk.set_ne); rotate_left; (focus omega)) | ((with_reducible apply Blk.dr); rotate_left; (focus (with_reducible assumption)); (focus omega)) | ((with_reducible apply Blk.new); rotate_left; (focus (with_reducible assumption))))
  intro K1_1
  try simp only [List.setIfInBounds_toArray, List.set_cons_succ, List.set_cons_zero] at K1_1
  obtain ⟨c1_1, f1_1⟩ := K1_1.rules
  have y1 : S < w1.heap.size := by omega
  go_wp2_with fail
  refine (l10Draw_any S _ (Dr.src ?hs1 hs.out)).mono ?_
  case hs1 => exact (by repeat (first | with_reducible refine Dr.setCell ?_ (by first | (simp; done) | (simp; omega) | omega) _ | with_reducible refine Dr.alloc ?_ _ | with_reducible exact Dr.refl _ _ | with_reducible assumption | with_reducible refine Dr.trans ?_ (by with_reducible assumption) | with_reducible refine Dr.trans ?_ (Dr.of_new (by with_reducible assumption)) | with_reducible refine Dr.drewN ?_ _ | with_reducible refine Dr.drew ?_))
  rintro e w2 ⟨n, u, xs, rfl, hx, b2⟩
  have z2 := b2.size
  try simp only [World.size_alloc, World.size_drew, World.heap_drewN, World.size_setCell] at z2
  have z2_0 : w.heap.size < w2.heap.size := by omega
  apply Blk.use (w := w2) (b := w.heap.size)
  · repeat (first | with_reducible assumption | with_reducible exact Blk.alloc_at (by first | rfl | (simp; done) | (simp; omega)) | with_reducible apply Blk.alloc | with_reducible apply Blk.drew | with_reducible apply Blk.drewN | with_reducible apply Blk.set | ((with_reducible apply Blk.set_ne); rotate_left; (focus omega)) | ((with_reducible apply Blk.dr); rotate_left; (focus (with_reducible assumption)); (focus omega)) | ((with_reducible apply Blk.new); rotate_left; (focus (with_reducible assumption))))
  intro K2_0
  try simp only [List.setIfInBounds_toArray, List.set_cons_succ, List.set_cons_zero] at K2_0
  obtain ⟨c2_0, f2_0⟩ := K2_0.rules
  have z2_1 : w.heap.size + 1 < w2.heap.size := by omega
  apply Blk.use (w := w2) (b := w.heap.size + 1)
  · repeat (first | with_reducible assumption | with_reducible exact Blk.alloc_at (by first | rfl | (simp; done) | (simp; omega)) | with_reducible apply Blk.alloc | with_reducible apply Blk.drew | with_reducible apply Blk.drewN | with_reducible apply Blk.set | ((with_reducible apply Blk.set_ne); rotate_left; (focus omega)) | ((with_reducible apply Blk.dr); rotate_left; (focus (with_reducible assumption)); (focus omega)) | ((with_reducible apply Blk.new); rotate_left; (focus (with_reducible assumption))))
  intro K2_1
  try simp only [List.setIfInBounds_toArray, List.set_cons_succ, List.set_cons_zero] at K2_1
  obtain ⟨c2_1, f2_1⟩ := K2_1.rules
  try clear c1_0 f1_0 K1_0
  try clear c1_1 f1_1 K1_1
  try clear c1_2 f1_2 K1_2
  try clear c1_3 f1_3 K1_3
  try clear c1_4 f1_4 K1_4
  try clear c1_5 f1_5 K1_5
  have y2 : S < w2.heap.size := by omega
  obtain ⟨ua, un, uc, rfl⟩ : ∃ a n c, u = .slice a n c := by obtain ⟨⟨a, c, h, _⟩, _⟩ := hx; exact ⟨a, _, c, h⟩
  have hx1 := Lib.hid (hx.new ((New.refl w2).alloc (.cells #[.int .i64 n, .slice ua un uc] 32)))
  clear hx
  go_wp2_with fail
  have HT := Lib.hid (fun (w0 : World) (h : RdI w0 (.slice ua un uc) xs) => sIsTraffic_any n (.slice ua un uc) xs w0 h)
  cases hT : isTraf n xs with
  | false =>
    rw [hT] at HT
    refine (HT.out _ hx1.out.1).mono ?_; rintro e w3 ⟨rfl, b3⟩
    obtain ⟨c3, f3⟩ := b3.rules
    have z3 := b3.size
    try simp only [World.size_alloc, World.size_drew, World.heap_drewN, World.size_setCell] at z3
    have z3_0 : w.heap.size < w3.heap.size := by omega
    go_wp2_with fail
    have B3 : Dr S w1 w3 := (Dr.alloc b2 _).trans (Dr.of_new b3)
    have hSRC := Lib.hid (B3.src hs.out)
    have KX : Blk w3 w2.heap.size #[.int .i64 n, .slice ua un uc] 32 := (Blk.alloc_at rfl).new b3
    have KA : Blk w3 w.heap.size #[.int .i64 0, .slice none 0 0] 32 := (K2_0.alloc _).new b3
    have KB : Blk w3 (w.heap.size + 1) #[.slice none 0 0, .slice none 0 0] 26 := (K2_1.alloc _).new b3
    have hx9 := Lib.hid (hx1.out.new b3)
    have hzX := KX.lt
    have hzA := KA.lt
    have hzB := KB.lt
    have hSz : S < w3.heap.size := by omega
    have hSX : S < w2.heap.size := by omega
    obtain ⟨cX, fX⟩ := KX.rules
    try clear c2_0 c2_1 f2_0 f2_1
    refine RD.wp_facts (S := S) [fun X _ => X = .agg #[.int .i64 n, .slice ua un uc], fun X _ => X = .pointer (some ⟨S, 0, none⟩), fun X _ => X = .pointer (some ⟨w2.heap.size, 0, none⟩), fun X _ => X = .int .i64 n, fun X W' => RpAt w3.heap.size W' X] (by kernel_rfl) (by kernel_rfl) ⟨RD.stable_eq _, RD.stable_eq _, RD.stable_eq _, RD.stable_eq _, fun X w0 w1 hn k34 => k34.dr hn (by omega), trivial⟩ ?_ ?_
    · refine ⟨?_, ?_, ?_, ?_, ?_, trivial⟩
      · intro a w9 hw ho hk
        refine .inl ⟨by rfl, ?_⟩
        have t2 := ho 5 rfl
        dsimp at t2
        try with_reducible replace hw := Dr.undrawN hw
        try with_reducible replace hw := Dr.undraw hw
        obtain ⟨c, d, f', g'⟩ := hw.rules
        go_simp
        exact Dr.refl _ _
      · intro a w9 hw ho hk
        refine .inl ⟨by rfl, ?_⟩
        have t2 := ho 4 rfl
        dsimp at t2
        try with_reducible replace hw := Dr.undrawN hw
        try with_reducible replace hw := Dr.undraw hw
        obtain ⟨c, d, f', g'⟩ := hw.rules
        go_simp
        exact Dr.refl _ _
      · intro a w9 hw ho hk
        refine .inl ⟨by rfl, ?_⟩
        have t2 := ho 5 rfl
        dsimp at t2
        try with_reducible replace hw := Dr.undrawN hw
        try with_reducible replace hw := Dr.undraw hw
        obtain ⟨c, d, f', g'⟩ := hw.rules
        go_simp
        exact Dr.refl _ _
      · intro a w9 hw ho hk
        refine .inl ⟨by rfl, ?_⟩
        have t32 : a.tmps[32]?.getD undef = .pointer (some ⟨w2.heap.size, 0, none⟩) := hk 2 32 (by kernel_rfl) rfl
        try with_reducible replace hw := Dr.undrawN hw
        try with_reducible replace hw := Dr.undraw hw
        obtain ⟨c, d, f', g'⟩ := hw.rules
        go_simp
        exact Dr.refl _ _
      · intro a w9 hw ho hk
        refine .inl ⟨by rfl, ?_⟩
        have t31 : a.tmps[31]?.getD undef = .pointer (some ⟨S, 0, none⟩) := hk 1 31 (by kernel_rfl) rfl
        have t33 : a.tmps[33]?.getD undef = .int .i64 n := hk 3 33 (by kernel_rfl) rfl
        go_simp
        refine (l11DrawReport_any S _ _ (hw.src hSRC.out)).mono ?_; rintro e w2 ⟨u, v, xs, ys, rfl, hu, hv, hb⟩
        exact ⟨hb, _, rfl, RpAt.of (hu.mono (by have := hw.size; omega)) (hv.mono (by have := hw.size; omega))⟩
    intro w9 b9
    rintro _ rfl
    rintro _ rfl
    rintro _ rfl
    rintro _ rfl
    rintro _ k34
    have z9 := b9.size
    try simp only [World.size_alloc, World.size_drew, World.heap_drewN, World.size_setCell] at z9
    try clear c8_0 f8_0 K8_0
    try clear c8_1 f8_1 K8_1
    try clear c8_2 f8_2 K8_2
    try clear c8_3 f8_3 K8_3
    try clear c8_4 f8_4 K8_4
    try clear c8_5 f8_5 K8_5
    try clear c7_0 f7_0 K7_0
    try clear c7_1 f7_1 K7_1
    try clear c7_2 f7_2 K7_2
    try clear c7_3 f7_3 K7_3
    try clear c7_4 f7_4 K7_4
    try clear c7_5 f7_5 K7_5
    try clear c6_0 f6_0 K6_0
    try clear c6_1 f6_1 K6_1
    try clear c6_2 f6_2 K6_2
    try clear c6_3 f6_3 K6_3
    try clear c6_4 f6_4 K6_4
    try clear c6_5 f6_5 K6_5
    have y9 : S < w9.heap.size := by omega
    simp only [RD.EndAll, List.nil_append, List.cons_append, List.length_cons, List.length_nil, Nat.zero_add, Nat.reduceAdd, List.take_succ_cons, List.take_zero, List.drop_succ_cons, List.drop_zero, RD.putAll, Act.put, List.setIfInBounds_toArray, List.set_cons_succ, List.set_cons_zero]
    obtain ⟨ra, rb, rc, rd, rx, ry, rfl, hu, hv⟩ := k34
    have KA9 := KA.dr b9 (by omega)
    have KB9 := KB.dr b9 (by omega)
    obtain ⟨cA, fA⟩ := KA9.rules
    obtain ⟨cB, fB⟩ := KB9.rules
    have hx10 := Lib.hid (hx9.out.dr b9 (by omega))
    replace hu := Lib.hid hu
    replace hv := Lib.hid hv
    have n9 : New w w9 := Dr.new (S := S) (w0 := w) (w := w1) (by repeat (first | with_reducible exact New.refl _ | with_reducible assumption | with_reducible refine New.drew ?_ | with_reducible refine New.drewN ?_ _ | with_reducible refine New.alloc ?_ _ | with_reducible refine New.setCell ?_ (by first | (simp; done) | (simp; omega) | omega) _ | with_reducible refine New.trans ?_ (by with_reducible assumption))) (B3.trans b9) (by omega)
    clear cX fX
    go_wp2_with fail
    refine bodyPost_ret (v := .tuple #[.agg #[.int .i64 n, .slice ua un uc], .agg #[.slice ra rx.length rc, .slice rb ry.length rd]]) (by simp [results, Try.results17, go_sem, cA, cB]) rfl ⟨n, _, _, _, xs, rx, ry, rfl, (RdF.set (RdF.set (RdF.set (RdF.set hx10.out (by dsimp only; omega) _) (by dsimp only; omega) _) (by dsimp only; omega) _) (by dsimp only; omega) _).1, (RdM2.set (RdM2.set (RdM2.set (RdM2.set hu.out (by omega) _) (by omega) _) (by omega) _) (by omega) _).1, (RdM2.set (RdM2.set (RdM2.set (RdM2.set hv.out (by omega) _) (by omega) _) (by omega) _) (by omega) _).1, (by repeat (first | with_reducible exact New.refl _ | with_reducible assumption | with_reducible refine New.drew ?_ | with_reducible refine New.drewN ?_ _ | with_reducible refine New.alloc ?_ _ | with_reducible refine New.setCell ?_ (by first | (simp; done) | (simp; omega) | omega) _ | with_reducible refine New.trans ?_ (by with_reducible assumption)))⟩
  | true =>
    rw [hT] at HT
    obtain ⟨⟨hn1, hn2⟩, _⟩ := isTraf_ok hT
    refine (HT.out _ hx1.out.1).mono ?_; rintro e w3 ⟨rfl, b3⟩
    obtain ⟨c3, f3⟩ := b3.rules
    have z3 := b3.size
    try simp only [World.size_alloc, World.size_drew, World.heap_drewN, World.size_setCell] at z3
    have z3_0 : w.heap.size < w3.heap.size := by omega
    have z3_1 : w.heap.size + 1 < w3.heap.size := by omega
    go_wp2_with fail
    have B3' : Dr S w1 w3 := (Dr.alloc b2 _).trans (Dr.of_new b3)
    have KA3 : Blk w3 w.heap.size #[.int .i64 0, .slice none 0 0] 32 := (K2_0.alloc _).new b3
    have KB3 : Blk w3 (w.heap.size + 1) #[.slice none 0 0, .slice none 0 0] 26 := (K2_1.alloc _).new b3
    refine (l01Next_n S _ _ (B3'.src hs.out)).mono ?_
    rintro e w4 ⟨r4, rfl, b4⟩
    have z4 := b4.size
    try simp only [World.size_alloc, World.size_drew, World.heap_drewN, World.size_setCell] at z4
    try clear c3_0 f3_0 K3_0
    try clear c3_1 f3_1 K3_1
    try clear c3_2 f3_2 K3_2
    try clear c3_3 f3_3 K3_3
    try clear c3_4 f3_4 K3_4
    try clear c3_5 f3_5 K3_5
    try clear c2_0 f2_0 K2_0
    try clear c2_1 f2_1 K2_1
    try clear c2_2 f2_2 K2_2
    try clear c2_3 f2_3 K2_3
    try clear c2_4 f2_4 K2_4
    try clear c2_5 f2_5 K2_5
    try clear c1_0 f1_0 K1_0
    try clear c1_1 f1_1 K1_1
    try clear c1_2 f1_2 K1_2
    try clear c1_3 f1_3 K1_3
    try clear c1_4 f1_4 K1_4
    try clear c1_5 f1_5 K1_5
    have y4 : S < w4.heap.size := by omega
    have B4 : Dr S w1 w4 := B3'.trans b4
    have KX4 : Blk w4 w2.heap.size #[.int .i64 n, .slice ua un uc] 32 := ((Blk.alloc_at rfl).new b3).dr b4 (by omega)
    have KA4 : Blk w4 w.heap.size #[.int .i64 0, .slice none 0 0] 32 := KA3.dr b4 (by omega)
    have KB4 : Blk w4 (w.heap.size + 1) #[.slice none 0 0, .slice none 0 0] 26 := KB3.dr b4 (by omega)
    have hx4 := Lib.hid ((hx1.out.new b3).dr b4 (by omega))
    have hz4X := KX4.lt
    obtain ⟨c4X, f4X⟩ := KX4.rules
    clear c3 f3
    rcases Bool.eq_false_or_eq_true (r4 == 0) with h4 | h4
    · go_wp2_with fail
      refine (l11DrawFaults_any S _ _ (B4.src hs.out)).mono ?_
      rintro e w5 ⟨fv, fs, rfl, hfl, hfs, b5⟩
      have z5 := b5.size
      try simp only [World.size_alloc, World.size_drew, World.heap_drewN, World.size_setCell] at z5
      try clear c4_0 f4_0 K4_0
      try clear c4_1 f4_1 K4_1
      try clear c4_2 f4_2 K4_2
      try clear c4_3 f4_3 K4_3
      try clear c4_4 f4_4 K4_4
      try clear c4_5 f4_5 K4_5
      try clear c3_0 f3_0 K3_0
      try clear c3_1 f3_1 K3_1
      try clear c3_2 f3_2 K3_2
      try clear c3_3 f3_3 K3_3
      try clear c3_4 f3_4 K3_4
      try clear c3_5 f3_5 K3_5
      try clear c2_0 f2_0 K2_0
      try clear c2_1 f2_1 K2_1
      try clear c2_2 f2_2 K2_2
      try clear c2_3 f2_3 K2_3
      try clear c2_4 f2_4 K2_4
      try clear c2_5 f2_5 K2_5
      have y5 : S < w5.heap.size := by omega
      have B5 : Dr S w1 w5 := B4.trans b5
      have KX5 := KX4.dr b5 (by omega)
      have KA5 := KA4.dr b5 (by omega)
      have KB5 := KB4.dr b5 (by omega)
      have hx5 := Lib.hid (hx4.out.dr b5 (by omega))
      have hz5X := KX5.lt
      obtain ⟨c5X, f5X⟩ := KX5.rules
      replace hfs := Lib.hid hfs
      clear c4X f4X
      go_wp2_with fail
      have HF := Lib.hid (fun (w0 : World) (h : Rd w0 fv fs.length (fs.flatMap encSensorFault)) => sAreFaults_any n fv fs w0 h)
      cases hF : areFaultsL n fs with
      | true =>
        rw [hF] at HF
        refine (HF.out _ hfs.out.1).mono ?_; rintro e w6 ⟨rfl, b6⟩
        obtain ⟨c6, f6⟩ := b6.rules
        have z6 := b6.size
        try simp only [World.size_alloc, World.size_drew, World.heap_drewN, World.size_setCell] at z6
        go_wp2_with fail
        have B3 : Dr S w1 w6 := B5.trans (Dr.of_new b6)
        have hSRC := Lib.hid (B3.src hs.out)
        have KX : Blk w6 w2.heap.size #[.int .i64 n, .slice ua un uc] 32 := KX5.new b6
        have KA : Blk w6 w.heap.size #[.int .i64 0, .slice none 0 0] 32 := KA5.new b6
        have KB : Blk w6 (w.heap.size + 1) #[.slice none 0 0, .slice none 0 0] 26 := KB5.new b6
        have hx9 := Lib.hid (hx5.out.new b6)
        have hzX := KX.lt
        have hzA := KA.lt
        have hzB := KB.lt
        have hSz : S < w6.heap.size := by omega
        have hSX : S < w2.heap.size := by omega
        obtain ⟨cX, fX⟩ := KX.rules
        try clear c2_0 c2_1 f2_0 f2_1
        have hf9 := Lib.hid (hfs.out.kept b6.size (fun k h1 h2 => b6.block k h2))
        have hFo : faultsOk n fs = true := by rw [areFaultsL, Bool.and_eq_true] at hF; exact hF.2
        have HRP := Lib.hid (fun (w0 : World) (h : RdI w0 (.slice ua un uc) xs) (k : Rd w0 fv fs.length (fs.flatMap encSensorFault)) => by
          have hnn : ((n.toNat : Nat) : Int) = n := by omega
          have h9 := sReport_any n.toNat (.slice ua un uc) fv xs fs w0 h k (by rw [hnn]; exact hT) (faults_in ⟨hn1, hn2⟩ hFo)
          rw [hnn] at h9
          exact h9)
        refine RD.wp_facts (S := S) [fun X _ => X = .agg #[.int .i64 n, .slice ua un uc], fun X _ => X = .agg #[.int .i64 n, .slice ua un uc], fun X _ => X = fv, fun X W' => RpAt w6.heap.size W' X] (by kernel_rfl) (by kernel_rfl) ⟨RD.stable_eq _, RD.stable_eq _, RD.stable_eq _, fun X w0 w1 hn k29 => k29.dr hn (by omega), trivial⟩ ?_ ?_
        · refine ⟨?_, ?_, ?_, ?_, trivial⟩
          · intro a w9 hw ho hk
            refine .inl ⟨by rfl, ?_⟩
            have t2 := ho 5 rfl
            dsimp at t2
            try with_reducible replace hw := Dr.undrawN hw
            try with_reducible replace hw := Dr.undraw hw
            obtain ⟨c, d, f', g'⟩ := hw.rules
            go_simp
            exact Dr.refl _ _
          · intro a w9 hw ho hk
            refine .inl ⟨by rfl, ?_⟩
            have t2 := ho 5 rfl
            dsimp at t2
            try with_reducible replace hw := Dr.undrawN hw
            try with_reducible replace hw := Dr.undraw hw
            obtain ⟨c, d, f', g'⟩ := hw.rules
            go_simp
            exact Dr.refl _ _
          · intro a w9 hw ho hk
            refine .inl ⟨by rfl, ?_⟩
            have t2 := ho 6 rfl
            dsimp at t2
            try with_reducible replace hw := Dr.undrawN hw
            try with_reducible replace hw := Dr.undraw hw
            obtain ⟨c, d, f', g'⟩ := hw.rules
            go_simp
            exact Dr.refl _ _
          · intro a w9 hw ho hk
            refine .inl ⟨by rfl, ?_⟩
            have t27 : a.tmps[27]?.getD undef = .agg #[.int .i64 n, .slice ua un uc] := hk 1 27 (by kernel_rfl) rfl
            have t28 : a.tmps[28]?.getD undef = fv := hk 2 28 (by kernel_rfl) rfl
            go_simp
            refine (HRP.out _ (hx9.out.dr hw (by omega)).1 (hf9.out.kept hw.size (fun k h1 h2 => hw.o.other k h2 (by omega))).1).mono ?_; rintro e w2 ⟨u1, u2, u3, u4, rfl, hb, h1, h2⟩
            exact ⟨Dr.of_new hb, _, rfl, RpAt.of (RdM2.mono (own_rdM2 h1) (by have := hw.size; omega)) (RdM2.mono (own_rdM2 h2) (by have := hw.size; omega))⟩
        intro w9 b9
        rintro _ rfl
        rintro _ rfl
        rintro _ rfl
        rintro _ k29
        have z9 := b9.size
        try simp only [World.size_alloc, World.size_drew, World.heap_drewN, World.size_setCell] at z9
        try clear c8_0 f8_0 K8_0
        try clear c8_1 f8_1 K8_1
        try clear c8_2 f8_2 K8_2
        try clear c8_3 f8_3 K8_3
        try clear c8_4 f8_4 K8_4
        try clear c8_5 f8_5 K8_5
        try clear c7_0 f7_0 K7_0
        try clear c7_1 f7_1 K7_1
        try clear c7_2 f7_2 K7_2
        try clear c7_3 f7_3 K7_3
        try clear c7_4 f7_4 K7_4
        try clear c7_5 f7_5 K7_5
        try clear c6_0 f6_0 K6_0
        try clear c6_1 f6_1 K6_1
        try clear c6_2 f6_2 K6_2
        try clear c6_3 f6_3 K6_3
        try clear c6_4 f6_4 K6_4
        try clear c6_5 f6_5 K6_5
        have y9 : S < w9.heap.size := by omega
        simp only [RD.EndAll, List.nil_append, List.cons_append, List.length_cons, List.length_nil, Nat.zero_add, Nat.reduceAdd, List.take_succ_cons, List.take_zero, List.drop_succ_cons, List.drop_zero, RD.putAll, Act.put, List.setIfInBounds_toArray, List.set_cons_succ, List.set_cons_zero]
        obtain ⟨ra, rb, rc, rd, rx, ry, rfl, hu, hv⟩ := k29
        have KA9 := KA.dr b9 (by omega)
        have KB9 := KB.dr b9 (by omega)
        obtain ⟨cA, fA⟩ := KA9.rules
        obtain ⟨cB, fB⟩ := KB9.rules
        have hx10 := Lib.hid (hx9.out.dr b9 (by omega))
        replace hu := Lib.hid hu
        replace hv := Lib.hid hv
        have n9 : New w w9 := Dr.new (S := S) (w0 := w) (w := w1) (by repeat (first | with_reducible exact New.refl _ | with_reducible assumption | with_reducible refine New.drew ?_ | with_reducible refine New.drewN ?_ _ | with_reducible refine New.alloc ?_ _ | with_reducible refine New.setCell ?_ (by first | (simp; done) | (simp; omega) | omega) _ | with_reducible refine New.trans ?_ (by with_reducible assumption))) (B3.trans b9) (by omega)
        clear cX fX
        go_wp2_with fail
        refine bodyPost_ret (v := .tuple #[.agg #[.int .i64 n, .slice ua un uc], .agg #[.slice ra rx.length rc, .slice rb ry.length rd]]) (by simp [results, Try.results17, go_sem, cA, cB]) rfl ⟨n, _, _, _, xs, rx, ry, rfl, (RdF.set (RdF.set (RdF.set (RdF.set hx10.out (by dsimp only; omega) _) (by dsimp only; omega) _) (by dsimp only; omega) _) (by dsimp only; omega) _).1, (RdM2.set (RdM2.set (RdM2.set (RdM2.set hu.out (by omega) _) (by omega) _) (by omega) _) (by omega) _).1, (RdM2.set (RdM2.set (RdM2.set (RdM2.set hv.out (by omega) _) (by omega) _) (by omega) _) (by omega) _).1, (by repeat (first | with_reducible exact New.refl _ | with_reducible assumption | with_reducible refine New.drew ?_ | with_reducible refine New.drewN ?_ _ | with_reducible refine New.alloc ?_ _ | with_reducible refine New.setCell ?_ (by first | (simp; done) | (simp; omega) | omega) _ | with_reducible refine New.trans ?_ (by with_reducible assumption)))⟩
      | false =>
        rw [hF] at HF
        refine (HF.out _ hfs.out.1).mono ?_; rintro e w6 ⟨rfl, b6⟩
        obtain ⟨c6, f6⟩ := b6.rules
        have z6 := b6.size
        try simp only [World.size_alloc, World.size_drew, World.heap_drewN, World.size_setCell] at z6
        go_wp2_with fail
        have B3 : Dr S w1 w6 := B5.trans (Dr.of_new b6)
        have hSRC := Lib.hid (B3.src hs.out)
        have KX : Blk w6 w2.heap.size #[.int .i64 n, .slice ua un uc] 32 := KX5.new b6
        have KA : Blk w6 w.heap.size #[.int .i64 0, .slice none 0 0] 32 := KA5.new b6
        have KB : Blk w6 (w.heap.size + 1) #[.slice none 0 0, .slice none 0 0] 26 := KB5.new b6
        have hx9 := Lib.hid (hx5.out.new b6)
        have hzX := KX.lt
        have hzA := KA.lt
        have hzB := KB.lt
        have hSz : S < w6.heap.size := by omega
        have hSX : S < w2.heap.size := by omega
        obtain ⟨cX, fX⟩ := KX.rules
        try clear c2_0 c2_1 f2_0 f2_1
        refine RD.wp_facts (S := S) [fun X _ => X = .agg #[.int .i64 n, .slice ua un uc], fun X _ => X = .pointer (some ⟨S, 0, none⟩), fun X _ => X = .pointer (some ⟨w2.heap.size, 0, none⟩), fun X _ => X = .int .i64 n, fun X W' => RpAt w6.heap.size W' X] (by kernel_rfl) (by kernel_rfl) ⟨RD.stable_eq _, RD.stable_eq _, RD.stable_eq _, RD.stable_eq _, fun X w0 w1 hn k34 => k34.dr hn (by omega), trivial⟩ ?_ ?_
        · refine ⟨?_, ?_, ?_, ?_, ?_, trivial⟩
          · intro a w9 hw ho hk
            refine .inl ⟨by rfl, ?_⟩
            have t2 := ho 5 rfl
            dsimp at t2
            try with_reducible replace hw := Dr.undrawN hw
            try with_reducible replace hw := Dr.undraw hw
            obtain ⟨c, d, f', g'⟩ := hw.rules
            go_simp
            exact Dr.refl _ _
          · intro a w9 hw ho hk
            refine .inl ⟨by rfl, ?_⟩
            have t2 := ho 4 rfl
            dsimp at t2
            try with_reducible replace hw := Dr.undrawN hw
            try with_reducible replace hw := Dr.undraw hw
            obtain ⟨c, d, f', g'⟩ := hw.rules
            go_simp
            exact Dr.refl _ _
          · intro a w9 hw ho hk
            refine .inl ⟨by rfl, ?_⟩
            have t2 := ho 5 rfl
            dsimp at t2
            try with_reducible replace hw := Dr.undrawN hw
            try with_reducible replace hw := Dr.undraw hw
            obtain ⟨c, d, f', g'⟩ := hw.rules
            go_simp
            exact Dr.refl _ _
          · intro a w9 hw ho hk
            refine .inl ⟨by rfl, ?_⟩
            have t32 : a.tmps[32]?.getD undef = .pointer (some ⟨w2.heap.size, 0, none⟩) := hk 2 32 (by kernel_rfl) rfl
            try with_reducible replace hw := Dr.undrawN hw
            try with_reducible replace hw := Dr.undraw hw
            obtain ⟨c, d, f', g'⟩ := hw.rules
            go_simp
            exact Dr.refl _ _
          · intro a w9 hw ho hk
            refine .inl ⟨by rfl, ?_⟩
            have t31 : a.tmps[31]?.getD undef = .pointer (some ⟨S, 0, none⟩) := hk 1 31 (by kernel_rfl) rfl
            have t33 : a.tmps[33]?.getD undef = .int .i64 n := hk 3 33 (by kernel_rfl) rfl
            go_simp
            refine (l11DrawReport_any S _ _ (hw.src hSRC.out)).mono ?_; rintro e w2 ⟨u, v, xs, ys, rfl, hu, hv, hb⟩
            exact ⟨hb, _, rfl, RpAt.of (hu.mono (by have := hw.size; omega)) (hv.mono (by have := hw.size; omega))⟩
        intro w9 b9
        rintro _ rfl
        rintro _ rfl
        rintro _ rfl
        rintro _ rfl
        rintro _ k34
        have z9 := b9.size
        try simp only [World.size_alloc, World.size_drew, World.heap_drewN, World.size_setCell] at z9
        try clear c8_0 f8_0 K8_0
        try clear c8_1 f8_1 K8_1
        try clear c8_2 f8_2 K8_2
        try clear c8_3 f8_3 K8_3
        try clear c8_4 f8_4 K8_4
        try clear c8_5 f8_5 K8_5
        try clear c7_0 f7_0 K7_0
        try clear c7_1 f7_1 K7_1
        try clear c7_2 f7_2 K7_2
        try clear c7_3 f7_3 K7_3
        try clear c7_4 f7_4 K7_4
        try clear c7_5 f7_5 K7_5
        try clear c6_0 f6_0 K6_0
        try clear c6_1 f6_1 K6_1
        try clear c6_2 f6_2 K6_2
        try clear c6_3 f6_3 K6_3
        try clear c6_4 f6_4 K6_4
        try clear c6_5 f6_5 K6_5
        have y9 : S < w9.heap.size := by omega
        simp only [RD.EndAll, List.nil_append, List.cons_append, List.length_cons, List.length_nil, Nat.zero_add, Nat.reduceAdd, List.take_succ_cons, List.take_zero, List.drop_succ_cons, List.drop_zero, RD.putAll, Act.put, List.setIfInBounds_toArray, List.set_cons_succ, List.set_cons_zero]
        obtain ⟨ra, rb, rc, rd, rx, ry, rfl, hu, hv⟩ := k34
        have KA9 := KA.dr b9 (by omega)
        have KB9 := KB.dr b9 (by omega)
        obtain ⟨cA, fA⟩ := KA9.rules
        obtain ⟨cB, fB⟩ := KB9.rules
        have hx10 := Lib.hid (hx9.out.dr b9 (by omega))
        replace hu := Lib.hid hu
        replace hv := Lib.hid hv
        have n9 : New w w9 := Dr.new (S := S) (w0 := w) (w := w1) (by repeat (first | with_reducible exact New.refl _ | with_reducible assumption | with_reducible refine New.drew ?_ | with_reducible refine New.drewN ?_ _ | with_reducible refine New.alloc ?_ _ | with_reducible refine New.setCell ?_ (by first | (simp; done) | (simp; omega) | omega) _ | with_reducible refine New.trans ?_ (by with_reducible assumption))) (B3.trans b9) (by omega)
        clear cX fX
        go_wp2_with fail
        refine bodyPost_ret (v := .tuple #[.agg #[.int .i64 n, .slice ua un uc], .agg #[.slice ra rx.length rc, .slice rb ry.length rd]]) (by simp [results, Try.results17, go_sem, cA, cB]) rfl ⟨n, _, _, _, xs, rx, ry, rfl, (RdF.set (RdF.set (RdF.set (RdF.set hx10.out (by dsimp only; omega) _) (by dsimp only; omega) _) (by dsimp only; omega) _) (by dsimp only; omega) _).1, (RdM2.set (RdM2.set (RdM2.set (RdM2.set hu.out (by omega) _) (by omega) _) (by omega) _) (by omega) _).1, (RdM2.set (RdM2.set (RdM2.set (RdM2.set hv.out (by omega) _) (by omega) _) (by omega) _) (by omega) _).1, (by repeat (first | with_reducible exact New.refl _ | with_reducible assumption | with_reducible refine New.drew ?_ | with_reducible refine New.drewN ?_ _ | with_reducible refine New.alloc ?_ _ | with_reducible refine New.setCell ?_ (by first | (simp; done) | (simp; omega) | omega) _ | with_reducible refine New.trans ?_ (by with_reducible assumption)))⟩
    · go_wp2_with fail
      have B3 : Dr S w1 w4 := B4
      have hSRC := Lib.hid (B3.src hs.out)
      have KX : Blk w4 w2.heap.size #[.int .i64 n, .slice ua un uc] 32 := KX4
      have KA : Blk w4 w.heap.size #[.int .i64 0, .slice none 0 0] 32 := KA4
      have KB : Blk w4 (w.heap.size + 1) #[.slice none 0 0, .slice none 0 0] 26 := KB4
      have hx9 := Lib.hid (hx4.out)
      have hzX := KX.lt
      have hzA := KA.lt
      have hzB := KB.lt
      have hSz : S < w4.heap.size := by omega
      have hSX : S < w2.heap.size := by omega
      obtain ⟨cX, fX⟩ := KX.rules
      try clear c2_0 c2_1 f2_0 f2_1
      refine RD.wp_facts (S := S) [fun X _ => X = .agg #[.int .i64 n, .slice ua un uc], fun X _ => X = .pointer (some ⟨S, 0, none⟩), fun X _ => X = .pointer (some ⟨w2.heap.size, 0, none⟩), fun X _ => X = .int .i64 n, fun X W' => RpAt w4.heap.size W' X] (by kernel_rfl) (by kernel_rfl) ⟨RD.stable_eq _, RD.stable_eq _, RD.stable_eq _, RD.stable_eq _, fun X w0 w1 hn k34 => k34.dr hn (by omega), trivial⟩ ?_ ?_
      · refine ⟨?_, ?_, ?_, ?_, ?_, trivial⟩
        · intro a w9 hw ho hk
          refine .inl ⟨by rfl, ?_⟩
          have t2 := ho 5 rfl
          dsimp at t2
          try with_reducible replace hw := Dr.undrawN hw
          try with_reducible replace hw := Dr.undraw hw
          obtain ⟨c, d, f', g'⟩ := hw.rules
          go_simp
          exact Dr.refl _ _
        · intro a w9 hw ho hk
          refine .inl ⟨by rfl, ?_⟩
          have t2 := ho 4 rfl
          dsimp at t2
          try with_reducible replace hw := Dr.undrawN hw
          try with_reducible replace hw := Dr.undraw hw
          obtain ⟨c, d, f', g'⟩ := hw.rules
          go_simp
          exact Dr.refl _ _
        · intro a w9 hw ho hk
          refine .inl ⟨by rfl, ?_⟩
          have t2 := ho 5 rfl
          dsimp at t2
          try with_reducible replace hw := Dr.undrawN hw
          try with_reducible replace hw := Dr.undraw hw
          obtain ⟨c, d, f', g'⟩ := hw.rules
          go_simp
          exact Dr.refl _ _
        · intro a w9 hw ho hk
          refine .inl ⟨by rfl, ?_⟩
          have t32 : a.tmps[32]?.getD undef = .pointer (some ⟨w2.heap.size, 0, none⟩) := hk 2 32 (by kernel_rfl) rfl
          try with_reducible replace hw := Dr.undrawN hw
          try with_reducible replace hw := Dr.undraw hw
          obtain ⟨c, d, f', g'⟩ := hw.rules
          go_simp
          exact Dr.refl _ _
        · intro a w9 hw ho hk
          refine .inl ⟨by rfl, ?_⟩
          have t31 : a.tmps[31]?.getD undef = .pointer (some ⟨S, 0, none⟩) := hk 1 31 (by kernel_rfl) rfl
          have t33 : a.tmps[33]?.getD undef = .int .i64 n := hk 3 33 (by kernel_rfl) rfl
          go_simp
          refine (l11DrawReport_any S _ _ (hw.src hSRC.out)).mono ?_; rintro e w2 ⟨u, v, xs, ys, rfl, hu, hv, hb⟩
          exact ⟨hb, _, rfl, RpAt.of (hu.mono (by have := hw.size; omega)) (hv.mono (by have := hw.size; omega))⟩
      intro w9 b9
      rintro _ rfl
      rintro _ rfl
      rintro _ rfl
      rintro _ rfl
      rintro _ k34
      have z9 := b9.size
      try simp only [World.size_alloc, World.size_drew, World.heap_drewN, World.size_setCell] at z9
      try clear c8_0 f8_0 K8_0
      try clear c8_1 f8_1 K8_1
      try clear c8_2 f8_2 K8_2
      try clear c8_3 f8_3 K8_3
      try clear c8_4 f8_4 K8_4
      try clear c8_5 f8_5 K8_5
      try clear c7_0 f7_0 K7_0
      try clear c7_1 f7_1 K7_1
      try clear c7_2 f7_2 K7_2
      try clear c7_3 f7_3 K7_3
      try clear c7_4 f7_4 K7_4
      try clear c7_5 f7_5 K7_5
      try clear c6_0 f6_0 K6_0
      try clear c6_1 f6_1 K6_1
      try clear c6_2 f6_2 K6_2
      try clear c6_3 f6_3 K6_3
      try clear c6_4 f6_4 K6_4
      try clear c6_5 f6_5 K6_5
      have y9 : S < w9.heap.size := by omega
      simp only [RD.EndAll, List.nil_append, List.cons_append, List.length_cons, List.length_nil, Nat.zero_add, Nat.reduceAdd, List.take_succ_cons, List.take_zero, List.drop_succ_cons, List.drop_zero, RD.putAll, Act.put, List.setIfInBounds_toArray, List.set_cons_succ, List.set_cons_zero]
      obtain ⟨ra, rb, rc, rd, rx, ry, rfl, hu, hv⟩ := k34
      have KA9 := KA.dr b9 (by omega)
      have KB9 := KB.dr b9 (by omega)
      obtain ⟨cA, fA⟩ := KA9.rules
      obtain ⟨cB, fB⟩ := KB9.rules
      have hx10 := Lib.hid (hx9.out.dr b9 (by omega))
      replace hu := Lib.hid hu
      replace hv := Lib.hid hv
      have n9 : New w w9 := Dr.new (S := S) (w0 := w) (w := w1) (by repeat (first | with_reducible exact New.refl _ | with_reducible assumption | with_reducible refine New.drew ?_ | with_reducible refine New.drewN ?_ _ | with_reducible refine New.alloc ?_ _ | with_reducible refine New.setCell ?_ (by first | (simp; done) | (simp; omega) | omega) _ | with_reducible refine New.trans ?_ (by with_reducible assumption))) (B3.trans b9) (by omega)
      clear cX fX
      go_wp2_with fail
      refine bodyPost_ret (v := .tuple #[.agg #[.int .i64 n, .slice ua un uc], .agg #[.slice ra rx.length rc, .slice rb ry.length rd]]) (by simp [results, Try.results17, go_sem, cA, cB]) rfl ⟨n, _, _, _, xs, rx, ry, rfl, (RdF.set (RdF.set (RdF.set (RdF.set hx10.out (by dsimp only; omega) _) (by dsimp only; omega) _) (by dsimp only; omega) _) (by dsimp only; omega) _).1, (RdM2.set (RdM2.set (RdM2.set (RdM2.set hu.out (by omega) _) (by omega) _) (by omega) _) (by omega) _).1, (RdM2.set (RdM2.set (RdM2.set (RdM2.set hv.out (by omega) _) (by omega) _) (by omega) _) (by omega) _).1, (by repeat (first | with_reducible exact New.refl _ | with_reducible assumption | with_reducible refine New.drew ?_ | with_reducible refine New.drewN ?_ _ | with_reducible refine New.alloc ?_ _ | with_reducible refine New.setCell ?_ (by first | (simp; done) | (simp; omega) | omega) _ | with_reducible refine New.trans ?_ (by with_reducible assumption)))⟩
end Go.Proofs.Ytinlichcbjpeaaa
