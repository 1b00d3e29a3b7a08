/- Contracts: tokens of a term's value: the program. -/
import Derived.Test.YteielmihlfakgaaGreatDoorProg
import Derived.Test.YteielmihlfakgaaGreatDoorExpI
namespace Go.Proofs.YteielmihlfakgaaGreatDoor
open Go Go.Proofs Go.RowKit
set_option linter.unusedVariables false
set_option linter.unusedSimpArgs false
set_option maxRecDepth 100000
theorem rdI_layL {w : World} (xs : List Int) (T : TypeId) (hx : xs.length ≤ 1000000 := by simp) : RdI (w.alloc (.cells (xs.map (Value.int .i64)).toArray T)) (.slice (some ⟨w.heap.size, 0, none⟩) xs.length xs.length) xs := by
  refine ⟨some ⟨w.heap.size, 0, none⟩, xs.length, rfl, by omega, ⟨(fun h => by cases h), Nat.le_refl _⟩, fun j u hu => ⟨w.heap.size, 0, rfl, by simp, ?_⟩⟩
  rw [Nat.zero_add, World.cell?, heap_alloc_self]
  simpa using hu
def RetTk (w : World) (T : List ByteArray) (e : Ending) (w' : World) : Prop := ∃ a c, e = .returned (.slice a T.length c) ∧ New w w' ∧ RdX w' (.slice a T.length c) T
theorem any56 (A : VT) : (([5, 6] : List Int).any fun y => A.kind == y) = looseN A := by
  rw [Bool.eq_iff_iff]; simp [looseN]
theorem any65 (A : VT) : (([6, 5] : List Int).any fun y => A.kind == y) = looseN A := by
  rw [Bool.eq_iff_iff]; simp [looseN, or_comm]
theorem any6 (A : VT) : (([6] : List Int).any fun y => A.kind == y) = looseA A := by
  rw [Bool.eq_iff_iff]; simp [looseA]
theorem iClosed56 (A : VT) (tv kv : Value) (w : World) (ht : RdX w tv A.toks) (hk : RdI w kv [5, 6]) (hl : A.toks.length ≤ 10000) :
    Calls Tryz.prog 165 #[.agg #[tv, .int .i64 A.kind], kv] w (RetTk w (clV (looseN A) A.toks)) := by
  have h := iClosed_any tv A.toks A.kind kv [5, 6] w ht hk hl
  rw [any56] at h; exact h
theorem iClosed65 (A : VT) (tv kv : Value) (w : World) (ht : RdX w tv A.toks) (hk : RdI w kv [6, 5]) (hl : A.toks.length ≤ 10000) :
    Calls Tryz.prog 165 #[.agg #[tv, .int .i64 A.kind], kv] w (RetTk w (clV (looseN A) A.toks)) := by
  have h := iClosed_any tv A.toks A.kind kv [6, 5] w ht hk hl
  rw [any65] at h; exact h
theorem iClosed6 (A : VT) (tv kv : Value) (w : World) (ht : RdX w tv A.toks) (hk : RdI w kv [6]) (hl : A.toks.length ≤ 10000) :
    Calls Tryz.prog 165 #[.agg #[tv, .int .i64 A.kind], kv] w (RetTk w (clV (looseA A) A.toks)) := by
  have h := iClosed_any tv A.toks A.kind kv [6] w ht hk hl
  rw [any6] at h; exact h
/-- A value comes back, with its tokens and its kind. -/
def RetWr (w : World) (T : List ByteArray) (k : Int) (e : Ending) (w' : World) : Prop := ∃ a c, e = .returned (.agg #[.slice a T.length c, .int .i64 k]) ∧ New w w' ∧ RdX w' (.slice a T.length c) T
theorem OwnX.set {base b o : Nat} {w : World} {v : Value} {T : List ByteArray} (h : OwnX base w v T) (hb : b < base) (u : Value) : OwnX base (w.setCell ⟨b, o, none⟩ u) v T := by
  obtain ⟨xs, h1, h2⟩ := h; exact ⟨xs, h1, ownsRow_setCell_below h2 hb u⟩
theorem ret_wr {fn : Func} {w0 w : World} {a : Act} {B : Nat} {ad : Option Addr} {c : Nat} {T : List ByteArray} {k : Int} {E : TypeId} (hd : a.defers = []) (hn : New w0 w) (h0 : w0.heap.size ≤ B) (hK : Blk w B #[.slice none 0 0, .int .i64 0] E) (ho : OwnX (B + 1) w (.slice ad T.length c) T)
    (hr : (results fn a.tmps).run Tryz.prog ((w.setCell ⟨B, 0, none⟩ (.slice ad T.length c)).setCell ⟨B, 1, none⟩ (.int .i64 k)) = .ok (.agg #[.slice ad T.length c, .int .i64 k]) ((w.setCell ⟨B, 0, none⟩ (.slice ad T.length c)).setCell ⟨B, 1, none⟩ (.int .i64 k))) :
    bodyPost Tryz.prog fn (RetWr w0 T k) .ret a ((w.setCell ⟨B, 0, none⟩ (.slice ad T.length c)).setCell ⟨B, 1, none⟩ (.int .i64 k)) :=
  ⟨hd, _, hr, ad, c, rfl, (hn.setCell (p := ⟨B, 0, none⟩) h0 _).setCell (p := ⟨B, 1, none⟩) h0 _, ((ho.set (Nat.lt_succ_self B) _).set (Nat.lt_succ_self B) _).rd⟩
def argT (L : List VT) : Nat → List ByteArray
  | 0 => []
  | 1 => (L.getD 0 zV).toks
  | _ => (L.getD 0 zV).toks ++ cCo :: (L.getD 1 zV).toks
theorem argT_all {t : ETerm} {L : List VT} (h : (L.length : Int) = takes t.kind) (h1 : L.length ≠ 0) : argT L L.length = (L.getD 0 zV).toks ++ sndT t (L.getD 1 zV) := by
  have hb := takes_bd t.kind
  rcases (by omega : L.length = 1 ∨ L.length = 2) with h2 | h2
  · rw [h2, sndT, if_neg (by omega)]; simp [argT]
  · rw [h2, sndT, if_pos (by omega)]; rfl
set_option maxHeartbeats 1000000 in
theorem iWriteName_any (nm : ByteArray) (n : Int) (av : Value) (w : World) :
    Calls Tryz.prog 142 #[.agg #[.int .i64 1, .string nm, .int .i64 n], av] w (RetWr w [nm] 1) := by
  go_enter Tryz.func142, Tryz.ntmps142
  go_wp2_with fail
  refine (iTokensOf_any _ [nm] _ (rdS_layB [nm] _) (by simp)).mono ?_; rintro e w1 ⟨r1, rfl, b1, o1⟩
  obtain ⟨a1, k1, rfl⟩ := o1.slice; simp only [World.size_alloc] at o1
  obtain ⟨c1, f1⟩ := b1.rules
  have z1 := b1.size
  try simp only [World.size_alloc, World.size_drew, World.heap_drewN, World.size_setCell] at z1
  have z1_0 : w.heap.size < w1.heap.size := by omega
  have z1_1 : w.heap.size + 1 < w1.heap.size := by omega
  go_wp2_with fail
  have K1 : Blk w1 (w.heap.size + 1) #[.slice none 0 0, .int .i64 0] 175 := Blk.new (Blk.alloc (Blk.alloc_at (by simp)) _) b1
  exact ret_wr rfl (show New w w1 by exact (by repeat (first | with_reducible exact New.refl _ | with_reducible assumption | with_reducible refine New.drew ?_ | with_reducible refine New.drewN ?_ _ | with_reducible refine New.alloc ?_ _ | with_reducible refine New.setCell ?_ (by first | (simp; done) | (simp; omega) | omega) _ | with_reducible refine New.trans ?_ (by with_reducible assumption)))) (by omega) K1 (o1.base (by omega)) (by simp [results, Tryz.results142, go_sem, c1, f1, z1_0, z1_1])
set_option maxHeartbeats 1000000 in
theorem iWriteTrue_any (nm : ByteArray) (n : Int) (av : Value) (w : World) :
    Calls Tryz.prog 142 #[.agg #[.int .i64 2, .string nm, .int .i64 n], av] w (RetWr w [kwN 9] 2) := by
  go_enter Tryz.func142, Tryz.ntmps142
  go_wp2_with fail
  refine (iTokensOf_any _ [kwN 9] _ (rdS_layB [kwN 9] _) (by simp)).mono ?_; rintro e w1 ⟨r1, rfl, b1, o1⟩
  obtain ⟨a1, k1, rfl⟩ := o1.slice; simp only [World.size_alloc] at o1
  obtain ⟨c1, f1⟩ := b1.rules
  have z1 := b1.size
  try simp only [World.size_alloc, World.size_drew, World.heap_drewN, World.size_setCell] at z1
  have z1_0 : w.heap.size < w1.heap.size := by omega
  have z1_1 : w.heap.size + 1 < w1.heap.size := by omega
  go_wp2_with fail
  have K1 : Blk w1 (w.heap.size + 1) #[.slice none 0 0, .int .i64 0] 175 := Blk.new (Blk.alloc (Blk.alloc_at (by simp)) _) b1
  exact ret_wr rfl (show New w w1 by exact (by repeat (first | with_reducible exact New.refl _ | with_reducible assumption | with_reducible refine New.drew ?_ | with_reducible refine New.drewN ?_ _ | with_reducible refine New.alloc ?_ _ | with_reducible refine New.setCell ?_ (by first | (simp; done) | (simp; omega) | omega) _ | with_reducible refine New.trans ?_ (by with_reducible assumption)))) (by omega) K1 (o1.base (by omega)) (by simp [results, Tryz.results142, go_sem, c1, f1, z1_0, z1_1])
set_option maxHeartbeats 1000000 in
theorem iWriteFalse_any (nm : ByteArray) (n : Int) (av : Value) (w : World) :
    Calls Tryz.prog 142 #[.agg #[.int .i64 3, .string nm, .int .i64 n], av] w (RetWr w [kwN 10] 3) := by
  go_enter Tryz.func142, Tryz.ntmps142
  go_wp2_with fail
  refine (iTokensOf_any _ [kwN 10] _ (rdS_layB [kwN 10] _) (by simp)).mono ?_; rintro e w1 ⟨r1, rfl, b1, o1⟩
  obtain ⟨a1, k1, rfl⟩ := o1.slice; simp only [World.size_alloc] at o1
  obtain ⟨c1, f1⟩ := b1.rules
  have z1 := b1.size
  try simp only [World.size_alloc, World.size_drew, World.heap_drewN, World.size_setCell] at z1
  have z1_0 : w.heap.size < w1.heap.size := by omega
  have z1_1 : w.heap.size + 1 < w1.heap.size := by omega
  go_wp2_with fail
  have K1 : Blk w1 (w.heap.size + 1) #[.slice none 0 0, .int .i64 0] 175 := Blk.new (Blk.alloc (Blk.alloc_at (by simp)) _) b1
  exact ret_wr rfl (show New w w1 by exact (by repeat (first | with_reducible exact New.refl _ | with_reducible assumption | with_reducible refine New.drew ?_ | with_reducible refine New.drewN ?_ _ | with_reducible refine New.alloc ?_ _ | with_reducible refine New.setCell ?_ (by first | (simp; done) | (simp; omega) | omega) _ | with_reducible refine New.trans ?_ (by with_reducible assumption)))) (by omega) K1 (o1.base (by omega)) (by simp [results, Tryz.results142, go_sem, c1, f1, z1_0, z1_1])
set_option maxHeartbeats 2000000 in
theorem iWriteNot_any (A : VT) (nm : ByteArray) (n : Int) (av : Value) (w : World) (ha : RdW w av [A]) (hs : A.toks.length ≤ 5000) :
    Calls Tryz.prog 142 #[.agg #[.int .i64 4, .string nm, .int .i64 n], av] w (RetWr w (kwN 8 :: clV (looseN A) A.toks) 4) := by
  obtain ⟨aa, ac, rfl, hm, hcp, _, HA⟩ := ha.open
  obtain ⟨b, off, sa, sc, rfl, hbl, x0, x1, hTA⟩ := HA.out 0 (by simp)
  simp only [List.length_cons, List.length_nil, Nat.zero_add, List.getElem_cons_zero, Nat.zero_mul, Nat.add_zero] at x0 x1 hTA hcp ⊢
  have RA := Lib.hid hTA
  have hcl := clV_len (looseN A) A.toks
  clear ha HA hTA hm
  have hb1 : b < w.heap.size + 1 := by omega
  have hb2 : b < w.heap.size + 1 + 1 := by omega
  obtain ⟨TT, hTT⟩ : ∃ TT, TT = kwN 8 :: clV (looseN A) A.toks := ⟨_, rfl⟩
  have HTT := Lib.hid (show [[kwN 8], clV (looseN A) A.toks].flatten = TT by rw [hTT]; simp)
  rw [← hTT]
  clear hTT
  go_enter Tryz.func142, Tryz.ntmps142
  go_wp2_with fail
  refine RG.wp_facts [fun X W' => RdS W' X [kwN 8], fun X W' => ∃ q c, X = .slice q 1 c ∧ RdX W' (.slice q 1 c) [kwN 8], fun X _ => X = .slice (some ⟨b, off, none⟩) 1 ac, fun X _ => X = .pointer (some ⟨b, off, none⟩), fun X _ => X = .agg #[.slice sa A.toks.length sc, .int .i64 A.kind], fun X W' => RdI W' X [5, 6], fun X W' => ∃ q c, X = .slice q (clV (looseN A) A.toks).length c ∧ RdX W' (.slice q (clV (looseN A) A.toks).length c) (clV (looseN A) A.toks), fun X W' => RdXs W' X [[kwN 8], clV (looseN A) A.toks], fun X W' => ∃ q c, X = .slice q TT.length c ∧ OwnX (w.heap.size + 1 + 1) W' (.slice q TT.length c) TT] (by kernel_rfl) (by kernel_rfl) ⟨fun X w0 w1 hn k66 => Rd.new k66 hn, fun X w0 w1 hn ⟨a67, c67, t67, k67⟩ => ⟨a67, c67, t67, k67.new hn⟩, RG.stable_eq _, RG.stable_eq _, RG.stable_eq _, fun X w0 w1 hn k71 => RdI.new k71 hn, fun X w0 w1 hn ⟨a72, c72, t72, k72⟩ => ⟨a72, c72, t72, k72.new hn⟩, fun X w0 w1 hn k73 => k73.new hn, fun X w0 w1 hn ⟨a74, c74, t74, o74⟩ => ⟨a74, c74, t74, o74.new hn⟩, trivial⟩ ?_ ?_
  · refine ⟨?_, ?_, ?_, ?_, ?_, ?_, ?_, ?_, ?_, trivial⟩
    · intro a w9 hw ho hk
      refine .inl ⟨by rfl, ?_⟩
      go_simp; first | exact ⟨(New.refl _).alloc _, _, rfl, rdS_lay [kwN 8] _⟩ | exact ⟨(New.refl _).alloc _, rdS_lay [kwN 8] _⟩
    · intro a w9 hw ho hk
      refine .inl ⟨by rfl, ?_⟩
      obtain k66 : RdS w9 (a.tmps[66]?.getD undef) [kwN 8] := hk 0 66 (by kernel_rfl) rfl
      go_simp
      refine (iTokensOf_any _ [kwN 8] _ k66 (by simp)).mono ?_; rintro e w2 ⟨r, rfl, hb, o⟩
      obtain ⟨q, c, rfl⟩ := o.slice; exact ⟨hb, _, rfl, _, _, rfl, o.rd⟩
    · intro a w9 hw ho hk
      refine .inl ⟨by rfl, ?_⟩
      have t2 := ho 1 rfl
      dsimp at t2
      try with_reducible replace hw := New.undrawN hw
      try with_reducible replace hw := New.undraw hw
      obtain ⟨c, f'⟩ := hw.rules
      go_simp
      exact New.refl _
    · intro a w9 hw ho hk
      refine .inl ⟨by rfl, ?_⟩
      have t68 : a.tmps[68]?.getD undef = .slice (some ⟨b, off, none⟩) 1 ac := hk 2 68 (by kernel_rfl) rfl
      go_simp
      exact New.refl _
    · intro a w9 hw ho hk
      refine .inl ⟨by rfl, ?_⟩
      have t69 : a.tmps[69]?.getD undef = .pointer (some ⟨b, off, none⟩) := hk 3 69 (by kernel_rfl) rfl
      try with_reducible replace hw := New.undrawN hw
      try with_reducible replace hw := New.undraw hw
      obtain ⟨c, f'⟩ := hw.rules
      go_simp
      exact New.refl _
    · intro a w9 hw ho hk
      refine .inl ⟨by rfl, ?_⟩
      go_simp; first | exact ⟨(New.refl _).alloc _, _, rfl, rdI_layL [5, 6] _⟩ | exact ⟨(New.refl _).alloc _, rdI_layL [5, 6] _⟩
    · intro a w9 hw ho hk
      refine .inl ⟨by rfl, ?_⟩
      have t70 : a.tmps[70]?.getD undef = .agg #[.slice sa A.toks.length sc, .int .i64 A.kind] := hk 4 70 (by kernel_rfl) rfl
      obtain k71 : RdI w9 (a.tmps[71]?.getD undef) [5, 6] := hk 5 71 (by kernel_rfl) rfl
      go_simp
      refine (iClosed56 A _ _ _ (RA.out.new (New.trans (show New w _ by exact (by repeat (first | with_reducible exact New.refl _ | with_reducible assumption | with_reducible refine New.drew ?_ | with_reducible refine New.drewN ?_ _ | with_reducible refine New.alloc ?_ _ | with_reducible refine New.setCell ?_ (by first | (simp; done) | (simp; omega) | omega) _ | with_reducible refine New.trans ?_ (by with_reducible assumption)))) hw)) k71 (by omega)).mono ?_; rintro e w2 ⟨q, c, rfl, hb, o⟩
      first | exact ⟨hb, _, rfl, _, _, rfl, o⟩ | exact ⟨hb, _, _, by simp, o⟩
    · intro a w9 hw ho hk
      refine .inl ⟨by rfl, ?_⟩
      obtain ⟨a67, c67, t67, k67⟩ : ∃ q c, (a.tmps[67]?.getD undef) = .slice q 1 c ∧ RdX w9 (.slice q 1 c) [kwN 8] := hk 1 67 (by kernel_rfl) rfl
      obtain ⟨a72, c72, t72, k72⟩ : ∃ q c, (a.tmps[72]?.getD undef) = .slice q (clV (looseN A) A.toks).length c ∧ RdX w9 (.slice q (clV (looseN A) A.toks).length c) (clV (looseN A) A.toks) := hk 6 72 (by kernel_rfl) rfl
      go_simp; first | exact ⟨(New.refl _).alloc _, _, rfl, rdXs_lay2 k67 k72⟩ | exact ⟨(New.refl _).alloc _, rdXs_lay2 k67 k72⟩
    · intro a w9 hw ho hk
      refine .inl ⟨by rfl, ?_⟩
      obtain k73 : RdXs w9 (a.tmps[73]?.getD undef) [[kwN 8], clV (looseN A) A.toks] := hk 7 73 (by kernel_rfl) rfl
      go_simp
      refine (concatX_any _ [[kwN 8], clV (looseN A) A.toks] _ k73 (by intro x hx; simp only [List.mem_cons, List.not_mem_nil, or_false] at hx; rcases hx with rfl | rfl <;> first | (simp; done) | omega) (by simp)).mono ?_; rintro e w2 ⟨r, rfl, hb, o⟩
      have hzw := hw.size; obtain ⟨q, c, h9⟩ := o.slice; subst h9; rw [HTT.out] at o ⊢; first | exact ⟨hb, _, rfl, _, _, rfl, o.base (by simp only [World.size_alloc] at hzw; omega)⟩ | exact ⟨hb, _, _, by simp, o.base (by simp only [World.size_alloc] at hzw; omega)⟩
  intro w3 b3 x66 k66 x67 ⟨a67, c67, t67, k67⟩ x68 h68 x69 h69 x70 h70 x71 k71 x72 ⟨a72, c72, t72, k72⟩ x73 k73 x74 ⟨a74, c74, t74, o74⟩
  subst t67 h68 h69 h70 t72 t74
  try with_reducible replace b3 := New.undrawN b3
  try with_reducible replace b3 := New.undraw b3
  obtain ⟨c3, f3⟩ := b3.rules
  have z3 := b3.size
  try simp only [World.size_alloc, World.size_drew, World.heap_drewN, World.size_setCell] at z3
  have z3_0 : w.heap.size < w3.heap.size := by omega
  have z3_1 : w.heap.size + 1 < w3.heap.size := by omega
  simp only [RG.EndAll, List.nil_append, List.cons_append, List.length_cons, List.length_nil, Nat.zero_add, Nat.reduceAdd, List.take_succ_cons, List.take_zero, List.drop_succ_cons, List.drop_zero, RG.putAll, Act.put, List.setIfInBounds_toArray, List.set_cons_succ, List.set_cons_zero]
  have KB3 : Blk w3 (w.heap.size + 1) #[.slice none 0 0, .int .i64 0] 175 := Blk.new (Blk.alloc_at (by simp)) b3
  go_wp2_with fail
  exact ret_wr rfl (show New w w3 by exact (by repeat (first | with_reducible exact New.refl _ | with_reducible assumption | with_reducible refine New.drew ?_ | with_reducible refine New.drewN ?_ _ | with_reducible refine New.alloc ?_ _ | with_reducible refine New.setCell ?_ (by first | (simp; done) | (simp; omega) | omega) _ | with_reducible refine New.trans ?_ (by with_reducible assumption)))) (by omega) KB3 (o74) (by simp [results, Tryz.results142, go_sem, c3, f3, z3_0, z3_1])
set_option maxHeartbeats 2000000 in
theorem iWriteAnd_any (A B : VT) (nm : ByteArray) (n : Int) (av : Value) (w : World) (ha : RdW w av [A, B]) (hs : A.toks.length ≤ 5000) (hs' : B.toks.length ≤ 5000) :
    Calls Tryz.prog 142 #[.agg #[.int .i64 5, .string nm, .int .i64 n], av] w (RetWr w (clV (looseA A) A.toks ++ (kwN 6 :: clV (looseN B) B.toks)) 5) := by
  obtain ⟨aa, ac, rfl, hm, hcp, _, HA⟩ := ha.open
  obtain ⟨b, off, sa, sc, rfl, hbl, x0, x1, hTA⟩ := HA.out 0 (by simp)
  obtain ⟨b', off', sb, sd, he, _, y0, y1, hTB⟩ := HA.out 1 (by simp)
  cases he
  simp only [List.length_cons, List.length_nil, Nat.zero_add, List.getElem_cons_zero, List.getElem_cons_succ, Nat.zero_mul, Nat.one_mul, Nat.add_zero, Nat.reduceAdd] at x0 x1 hTA y0 y1 hTB hcp ⊢
  have RA := Lib.hid hTA
  have RB := Lib.hid hTB
  have hcl := clV_len (looseA A) A.toks
  have hcl' := clV_len (looseN B) B.toks
  clear ha HA hTA hTB hm
  have hb1 : b < w.heap.size + 1 := by omega
  have hb2 : b < w.heap.size + 1 + 1 := by omega
  obtain ⟨TT, hTT⟩ : ∃ TT, TT = clV (looseA A) A.toks ++ (kwN 6 :: clV (looseN B) B.toks) := ⟨_, rfl⟩
  have HTT := Lib.hid (show [clV (looseA A) A.toks, [kwN 6], clV (looseN B) B.toks].flatten = TT by rw [hTT]; simp)
  rw [← hTT]
  clear hTT
  go_enter Tryz.func142, Tryz.ntmps142
  go_wp2_with fail
  refine RG.wp_facts [fun X _ => X = .slice (some ⟨b, off, none⟩) 2 ac, fun X _ => X = .pointer (some ⟨b, off, none⟩), fun X _ => X = .agg #[.slice sa A.toks.length sc, .int .i64 A.kind], fun X W' => RdI W' X [6], fun X W' => ∃ q c, X = .slice q (clV (looseA A) A.toks).length c ∧ RdX W' (.slice q (clV (looseA A) A.toks).length c) (clV (looseA A) A.toks), fun X W' => RdS W' X [kwN 6], fun X W' => ∃ q c, X = .slice q 1 c ∧ RdX W' (.slice q 1 c) [kwN 6], fun X _ => X = .slice (some ⟨b, off, none⟩) 2 ac, fun X _ => X = .pointer (some ⟨b, off + 2, none⟩), fun X _ => X = .agg #[.slice sb B.toks.length sd, .int .i64 B.kind], fun X W' => RdI W' X [6, 5], fun X W' => ∃ q c, X = .slice q (clV (looseN B) B.toks).length c ∧ RdX W' (.slice q (clV (looseN B) B.toks).length c) (clV (looseN B) B.toks), fun X W' => RdXs W' X [clV (looseA A) A.toks, [kwN 6], clV (looseN B) B.toks], fun X W' => ∃ q c, X = .slice q TT.length c ∧ OwnX (w.heap.size + 1 + 1) W' (.slice q TT.length c) TT] (by kernel_rfl) (by kernel_rfl) ⟨RG.stable_eq _, RG.stable_eq _, RG.stable_eq _, fun X w0 w1 hn k80 => RdI.new k80 hn, fun X w0 w1 hn ⟨a81, c81, t81, k81⟩ => ⟨a81, c81, t81, k81.new hn⟩, fun X w0 w1 hn k82 => Rd.new k82 hn, fun X w0 w1 hn ⟨a83, c83, t83, k83⟩ => ⟨a83, c83, t83, k83.new hn⟩, RG.stable_eq _, RG.stable_eq _, RG.stable_eq _, fun X w0 w1 hn k87 => RdI.new k87 hn, fun X w0 w1 hn ⟨a88, c88, t88, k88⟩ => ⟨a88, c88, t88, k88.new hn⟩, fun X w0 w1 hn k89 => k89.new hn, fun X w0 w1 hn ⟨a90, c90, t90, o90⟩ => ⟨a90, c90, t90, o90.new hn⟩, trivial⟩ ?_ ?_
  · refine ⟨?_, ?_, ?_, ?_, ?_, ?_, ?_, ?_, ?_, ?_, ?_, ?_, ?_, ?_, trivial⟩
    · intro a w9 hw ho hk
      refine .inl ⟨by rfl, ?_⟩
      have t2 := ho 1 rfl
      dsimp at t2
      try with_reducible replace hw := New.undrawN hw
      try with_reducible replace hw := New.undraw hw
      obtain ⟨c, f'⟩ := hw.rules
      go_simp
      exact New.refl _
    · intro a w9 hw ho hk
      refine .inl ⟨by rfl, ?_⟩
      have t77 : a.tmps[77]?.getD undef = .slice (some ⟨b, off, none⟩) 2 ac := hk 0 77 (by kernel_rfl) rfl
      go_simp
      exact New.refl _
    · intro a w9 hw ho hk
      refine .inl ⟨by rfl, ?_⟩
      have t78 : a.tmps[78]?.getD undef = .pointer (some ⟨b, off, none⟩) := hk 1 78 (by kernel_rfl) rfl
      try with_reducible replace hw := New.undrawN hw
      try with_reducible replace hw := New.undraw hw
      obtain ⟨c, f'⟩ := hw.rules
      go_simp
      exact New.refl _
    · intro a w9 hw ho hk
      refine .inl ⟨by rfl, ?_⟩
      go_simp; first | exact ⟨(New.refl _).alloc _, _, rfl, rdI_layL [6] _⟩ | exact ⟨(New.refl _).alloc _, rdI_layL [6] _⟩
    · intro a w9 hw ho hk
      refine .inl ⟨by rfl, ?_⟩
      have t79 : a.tmps[79]?.getD undef = .agg #[.slice sa A.toks.length sc, .int .i64 A.kind] := hk 2 79 (by kernel_rfl) rfl
      obtain k80 : RdI w9 (a.tmps[80]?.getD undef) [6] := hk 3 80 (by kernel_rfl) rfl
      go_simp
      refine (iClosed6 A _ _ _ (RA.out.new (New.trans (show New w _ by exact (by repeat (first | with_reducible exact New.refl _ | with_reducible assumption | with_reducible refine New.drew ?_ | with_reducible refine New.drewN ?_ _ | with_reducible refine New.alloc ?_ _ | with_reducible refine New.setCell ?_ (by first | (simp; done) | (simp; omega) | omega) _ | with_reducible refine New.trans ?_ (by with_reducible assumption)))) hw)) k80 (by omega)).mono ?_; rintro e w2 ⟨q, c, rfl, hb, o⟩
      first | exact ⟨hb, _, rfl, _, _, rfl, o⟩ | exact ⟨hb, _, _, by simp, o⟩
    · intro a w9 hw ho hk
      refine .inl ⟨by rfl, ?_⟩
      go_simp; first | exact ⟨(New.refl _).alloc _, _, rfl, rdS_lay [kwN 6] _⟩ | exact ⟨(New.refl _).alloc _, rdS_lay [kwN 6] _⟩
    · intro a w9 hw ho hk
      refine .inl ⟨by rfl, ?_⟩
      obtain k82 : RdS w9 (a.tmps[82]?.getD undef) [kwN 6] := hk 5 82 (by kernel_rfl) rfl
      go_simp
      refine (iTokensOf_any _ [kwN 6] _ k82 (by simp)).mono ?_; rintro e w2 ⟨r, rfl, hb, o⟩
      obtain ⟨q, c, rfl⟩ := o.slice; exact ⟨hb, _, rfl, _, _, rfl, o.rd⟩
    · intro a w9 hw ho hk
      refine .inl ⟨by rfl, ?_⟩
      have t2 := ho 1 rfl
      dsimp at t2
      try with_reducible replace hw := New.undrawN hw
      try with_reducible replace hw := New.undraw hw
      obtain ⟨c, f'⟩ := hw.rules
      go_simp
      exact New.refl _
    · intro a w9 hw ho hk
      refine .inl ⟨by rfl, ?_⟩
      have t84 : a.tmps[84]?.getD undef = .slice (some ⟨b, off, none⟩) 2 ac := hk 7 84 (by kernel_rfl) rfl
      go_simp
      exact New.refl _
    · intro a w9 hw ho hk
      refine .inl ⟨by rfl, ?_⟩
      have t85 : a.tmps[85]?.getD undef = .pointer (some ⟨b, off + 2, none⟩) := hk 8 85 (by kernel_rfl) rfl
      try with_reducible replace hw := New.undrawN hw
      try with_reducible replace hw := New.undraw hw
      obtain ⟨c, f'⟩ := hw.rules
      go_simp
      exact New.refl _
    · intro a w9 hw ho hk
      refine .inl ⟨by rfl, ?_⟩
      go_simp; first | exact ⟨(New.refl _).alloc _, _, rfl, rdI_layL [6, 5] _⟩ | exact ⟨(New.refl _).alloc _, rdI_layL [6, 5] _⟩
    · intro a w9 hw ho hk
      refine .inl ⟨by rfl, ?_⟩
      have t86 : a.tmps[86]?.getD undef = .agg #[.slice sb B.toks.length sd, .int .i64 B.kind] := hk 9 86 (by kernel_rfl) rfl
      obtain k87 : RdI w9 (a.tmps[87]?.getD undef) [6, 5] := hk 10 87 (by kernel_rfl) rfl
      go_simp
      refine (iClosed65 B _ _ _ (RB.out.new (New.trans (show New w _ by exact (by repeat (first | with_reducible exact New.refl _ | with_reducible assumption | with_reducible refine New.drew ?_ | with_reducible refine New.drewN ?_ _ | with_reducible refine New.alloc ?_ _ | with_reducible refine New.setCell ?_ (by first | (simp; done) | (simp; omega) | omega) _ | with_reducible refine New.trans ?_ (by with_reducible assumption)))) hw)) k87 (by omega)).mono ?_; rintro e w2 ⟨q, c, rfl, hb, o⟩
      first | exact ⟨hb, _, rfl, _, _, rfl, o⟩ | exact ⟨hb, _, _, by simp, o⟩
    · intro a w9 hw ho hk
      refine .inl ⟨by rfl, ?_⟩
      obtain ⟨a81, c81, t81, k81⟩ : ∃ q c, (a.tmps[81]?.getD undef) = .slice q (clV (looseA A) A.toks).length c ∧ RdX w9 (.slice q (clV (looseA A) A.toks).length c) (clV (looseA A) A.toks) := hk 4 81 (by kernel_rfl) rfl
      obtain ⟨a83, c83, t83, k83⟩ : ∃ q c, (a.tmps[83]?.getD undef) = .slice q 1 c ∧ RdX w9 (.slice q 1 c) [kwN 6] := hk 6 83 (by kernel_rfl) rfl
      obtain ⟨a88, c88, t88, k88⟩ : ∃ q c, (a.tmps[88]?.getD undef) = .slice q (clV (looseN B) B.toks).length c ∧ RdX w9 (.slice q (clV (looseN B) B.toks).length c) (clV (looseN B) B.toks) := hk 11 88 (by kernel_rfl) rfl
      go_simp; first | exact ⟨(New.refl _).alloc _, _, rfl, rdXs_lay3 k81 k83 k88⟩ | exact ⟨(New.refl _).alloc _, rdXs_lay3 k81 k83 k88⟩
    · intro a w9 hw ho hk
      refine .inl ⟨by rfl, ?_⟩
      obtain k89 : RdXs w9 (a.tmps[89]?.getD undef) [clV (looseA A) A.toks, [kwN 6], clV (looseN B) B.toks] := hk 12 89 (by kernel_rfl) rfl
      go_simp
      refine (concatX_any _ [clV (looseA A) A.toks, [kwN 6], clV (looseN B) B.toks] _ k89 (by intro x hx; simp only [List.mem_cons, List.not_mem_nil, or_false] at hx; rcases hx with rfl | rfl | rfl <;> first | (simp; done) | omega) (by simp)).mono ?_; rintro e w2 ⟨r, rfl, hb, o⟩
      have hzw := hw.size; obtain ⟨q, c, h9⟩ := o.slice; subst h9; rw [HTT.out] at o ⊢; first | exact ⟨hb, _, rfl, _, _, rfl, o.base (by simp only [World.size_alloc] at hzw; omega)⟩ | exact ⟨hb, _, _, by simp, o.base (by simp only [World.size_alloc] at hzw; omega)⟩
  intro w3 b3 x77 h77 x78 h78 x79 h79 x80 k80 x81 ⟨a81, c81, t81, k81⟩ x82 k82 x83 ⟨a83, c83, t83, k83⟩ x84 h84 x85 h85 x86 h86 x87 k87 x88 ⟨a88, c88, t88, k88⟩ x89 k89 x90 ⟨a90, c90, t90, o90⟩
  subst h77 h78 h79 t81 t83 h84 h85 h86 t88 t90
  try with_reducible replace b3 := New.undrawN b3
  try with_reducible replace b3 := New.undraw b3
  obtain ⟨c3, f3⟩ := b3.rules
  have z3 := b3.size
  try simp only [World.size_alloc, World.size_drew, World.heap_drewN, World.size_setCell] at z3
  have z3_0 : w.heap.size < w3.heap.size := by omega
  have z3_1 : w.heap.size + 1 < w3.heap.size := by omega
  simp only [RG.EndAll, List.nil_append, List.cons_append, List.length_cons, List.length_nil, Nat.zero_add, Nat.reduceAdd, List.take_succ_cons, List.take_zero, List.drop_succ_cons, List.drop_zero, RG.putAll, Act.put, List.setIfInBounds_toArray, List.set_cons_succ, List.set_cons_zero]
  have KB3 : Blk w3 (w.heap.size + 1) #[.slice none 0 0, .int .i64 0] 175 := Blk.new (Blk.alloc_at (by simp)) b3
  go_wp2_with fail
  exact ret_wr rfl (show New w w3 by exact (by repeat (first | with_reducible exact New.refl _ | with_reducible assumption | with_reducible refine New.drew ?_ | with_reducible refine New.drewN ?_ _ | with_reducible refine New.alloc ?_ _ | with_reducible refine New.setCell ?_ (by first | (simp; done) | (simp; omega) | omega) _ | with_reducible refine New.trans ?_ (by with_reducible assumption)))) (by omega) KB3 (o90) (by simp [results, Tryz.results142, go_sem, c3, f3, z3_0, z3_1])
set_option maxHeartbeats 2000000 in
theorem iWriteOr_any (A B : VT) (nm : ByteArray) (n : Int) (av : Value) (w : World) (ha : RdW w av [A, B]) (hs : A.toks.length ≤ 5000) (hs' : B.toks.length ≤ 5000) :
    Calls Tryz.prog 142 #[.agg #[.int .i64 6, .string nm, .int .i64 n], av] w (RetWr w (A.toks ++ (kwN 7 :: clV (looseA B) B.toks)) 6) := by
  obtain ⟨aa, ac, rfl, hm, hcp, _, HA⟩ := ha.open
  obtain ⟨b, off, sa, sc, rfl, hbl, x0, x1, hTA⟩ := HA.out 0 (by simp)
  obtain ⟨b', off', sb, sd, he, _, y0, y1, hTB⟩ := HA.out 1 (by simp)
  cases he
  simp only [List.length_cons, List.length_nil, Nat.zero_add, List.getElem_cons_zero, List.getElem_cons_succ, Nat.zero_mul, Nat.one_mul, Nat.add_zero, Nat.reduceAdd] at x0 x1 hTA y0 y1 hTB hcp ⊢
  have RA := Lib.hid hTA
  have RB := Lib.hid hTB
  have hcl' := clV_len (looseA B) B.toks
  clear ha HA hTA hTB hm
  have hb1 : b < w.heap.size + 1 := by omega
  have hb2 : b < w.heap.size + 1 + 1 := by omega
  obtain ⟨TT, hTT⟩ : ∃ TT, TT = A.toks ++ (kwN 7 :: clV (looseA B) B.toks) := ⟨_, rfl⟩
  have HTT := Lib.hid (show [A.toks, [kwN 7], clV (looseA B) B.toks].flatten = TT by rw [hTT]; simp)
  rw [← hTT]
  clear hTT
  go_enter Tryz.func142, Tryz.ntmps142
  go_wp2_with fail
  refine RG.wp_facts [fun X _ => X = .slice (some ⟨b, off, none⟩) 2 ac, fun X _ => X = .pointer (some ⟨b, off, none⟩), fun X _ => X = .pointer (some ⟨b, off, none⟩), fun X _ => X = .slice sa A.toks.length sc, fun X W' => RdS W' X [kwN 7], fun X W' => ∃ q c, X = .slice q 1 c ∧ RdX W' (.slice q 1 c) [kwN 7], fun X _ => X = .slice (some ⟨b, off, none⟩) 2 ac, fun X _ => X = .pointer (some ⟨b, off + 2, none⟩), fun X _ => X = .agg #[.slice sb B.toks.length sd, .int .i64 B.kind], fun X W' => RdI W' X [6], fun X W' => ∃ q c, X = .slice q (clV (looseA B) B.toks).length c ∧ RdX W' (.slice q (clV (looseA B) B.toks).length c) (clV (looseA B) B.toks), fun X W' => RdXs W' X [A.toks, [kwN 7], clV (looseA B) B.toks], fun X W' => ∃ q c, X = .slice q TT.length c ∧ OwnX (w.heap.size + 1 + 1) W' (.slice q TT.length c) TT] (by kernel_rfl) (by kernel_rfl) ⟨RG.stable_eq _, RG.stable_eq _, RG.stable_eq _, RG.stable_eq _, fun X w0 w1 hn k97 => Rd.new k97 hn, fun X w0 w1 hn ⟨a98, c98, t98, k98⟩ => ⟨a98, c98, t98, k98.new hn⟩, RG.stable_eq _, RG.stable_eq _, RG.stable_eq _, fun X w0 w1 hn k102 => RdI.new k102 hn, fun X w0 w1 hn ⟨a103, c103, t103, k103⟩ => ⟨a103, c103, t103, k103.new hn⟩, fun X w0 w1 hn k104 => k104.new hn, fun X w0 w1 hn ⟨a105, c105, t105, o105⟩ => ⟨a105, c105, t105, o105.new hn⟩, trivial⟩ ?_ ?_
  · refine ⟨?_, ?_, ?_, ?_, ?_, ?_, ?_, ?_, ?_, ?_, ?_, ?_, ?_, trivial⟩
    · intro a w9 hw ho hk
      refine .inl ⟨by rfl, ?_⟩
      have t2 := ho 1 rfl
      dsimp at t2
      try with_reducible replace hw := New.undrawN hw
      try with_reducible replace hw := New.undraw hw
      obtain ⟨c, f'⟩ := hw.rules
      go_simp
      exact New.refl _
    · intro a w9 hw ho hk
      refine .inl ⟨by rfl, ?_⟩
      have t93 : a.tmps[93]?.getD undef = .slice (some ⟨b, off, none⟩) 2 ac := hk 0 93 (by kernel_rfl) rfl
      go_simp
      exact New.refl _
    · intro a w9 hw ho hk
      refine .inl ⟨by rfl, ?_⟩
      have t94 : a.tmps[94]?.getD undef = .pointer (some ⟨b, off, none⟩) := hk 1 94 (by kernel_rfl) rfl
      go_simp
      exact New.refl _
    · intro a w9 hw ho hk
      refine .inl ⟨by rfl, ?_⟩
      have t95 : a.tmps[95]?.getD undef = .pointer (some ⟨b, off, none⟩) := hk 2 95 (by kernel_rfl) rfl
      try with_reducible replace hw := New.undrawN hw
      try with_reducible replace hw := New.undraw hw
      obtain ⟨c, f'⟩ := hw.rules
      go_simp
      exact New.refl _
    · intro a w9 hw ho hk
      refine .inl ⟨by rfl, ?_⟩
      go_simp; first | exact ⟨(New.refl _).alloc _, _, rfl, rdS_lay [kwN 7] _⟩ | exact ⟨(New.refl _).alloc _, rdS_lay [kwN 7] _⟩
    · intro a w9 hw ho hk
      refine .inl ⟨by rfl, ?_⟩
      obtain k97 : RdS w9 (a.tmps[97]?.getD undef) [kwN 7] := hk 4 97 (by kernel_rfl) rfl
      go_simp
      refine (iTokensOf_any _ [kwN 7] _ k97 (by simp)).mono ?_; rintro e w2 ⟨r, rfl, hb, o⟩
      obtain ⟨q, c, rfl⟩ := o.slice; exact ⟨hb, _, rfl, _, _, rfl, o.rd⟩
    · intro a w9 hw ho hk
      refine .inl ⟨by rfl, ?_⟩
      have t2 := ho 1 rfl
      dsimp at t2
      try with_reducible replace hw := New.undrawN hw
      try with_reducible replace hw := New.undraw hw
      obtain ⟨c, f'⟩ := hw.rules
      go_simp
      exact New.refl _
    · intro a w9 hw ho hk
      refine .inl ⟨by rfl, ?_⟩
      have t99 : a.tmps[99]?.getD undef = .slice (some ⟨b, off, none⟩) 2 ac := hk 6 99 (by kernel_rfl) rfl
      go_simp
      exact New.refl _
    · intro a w9 hw ho hk
      refine .inl ⟨by rfl, ?_⟩
      have t100 : a.tmps[100]?.getD undef = .pointer (some ⟨b, off + 2, none⟩) := hk 7 100 (by kernel_rfl) rfl
      try with_reducible replace hw := New.undrawN hw
      try with_reducible replace hw := New.undraw hw
      obtain ⟨c, f'⟩ := hw.rules
      go_simp
      exact New.refl _
    · intro a w9 hw ho hk
      refine .inl ⟨by rfl, ?_⟩
      go_simp; first | exact ⟨(New.refl _).alloc _, _, rfl, rdI_layL [6] _⟩ | exact ⟨(New.refl _).alloc _, rdI_layL [6] _⟩
    · intro a w9 hw ho hk
      refine .inl ⟨by rfl, ?_⟩
      have t101 : a.tmps[101]?.getD undef = .agg #[.slice sb B.toks.length sd, .int .i64 B.kind] := hk 8 101 (by kernel_rfl) rfl
      obtain k102 : RdI w9 (a.tmps[102]?.getD undef) [6] := hk 9 102 (by kernel_rfl) rfl
      go_simp
      refine (iClosed6 B _ _ _ (RB.out.new (New.trans (show New w _ by exact (by repeat (first | with_reducible exact New.refl _ | with_reducible assumption | with_reducible refine New.drew ?_ | with_reducible refine New.drewN ?_ _ | with_reducible refine New.alloc ?_ _ | with_reducible refine New.setCell ?_ (by first | (simp; done) | (simp; omega) | omega) _ | with_reducible refine New.trans ?_ (by with_reducible assumption)))) hw)) k102 (by omega)).mono ?_; rintro e w2 ⟨q, c, rfl, hb, o⟩
      first | exact ⟨hb, _, rfl, _, _, rfl, o⟩ | exact ⟨hb, _, _, by simp, o⟩
    · intro a w9 hw ho hk
      refine .inl ⟨by rfl, ?_⟩
      have t96 : a.tmps[96]?.getD undef = .slice sa A.toks.length sc := hk 3 96 (by kernel_rfl) rfl
      obtain ⟨a98, c98, t98, k98⟩ : ∃ q c, (a.tmps[98]?.getD undef) = .slice q 1 c ∧ RdX w9 (.slice q 1 c) [kwN 7] := hk 5 98 (by kernel_rfl) rfl
      obtain ⟨a103, c103, t103, k103⟩ : ∃ q c, (a.tmps[103]?.getD undef) = .slice q (clV (looseA B) B.toks).length c ∧ RdX w9 (.slice q (clV (looseA B) B.toks).length c) (clV (looseA B) B.toks) := hk 10 103 (by kernel_rfl) rfl
      go_simp; first | exact ⟨(New.refl _).alloc _, _, rfl, rdXs_lay3 (RA.out.new (New.trans (show New w _ by exact (by repeat (first | with_reducible exact New.refl _ | with_reducible assumption | with_reducible refine New.drew ?_ | with_reducible refine New.drewN ?_ _ | with_reducible refine New.alloc ?_ _ | with_reducible refine New.setCell ?_ (by first | (simp; done) | (simp; omega) | omega) _ | with_reducible refine New.trans ?_ (by with_reducible assumption)))) hw)) k98 k103⟩ | exact ⟨(New.refl _).alloc _, rdXs_lay3 (RA.out.new (New.trans (show New w _ by exact (by repeat (first | with_reducible exact New.refl _ | with_reducible assumption | with_reducible refine New.drew ?_ | with_reducible refine New.drewN ?_ _ | with_reducible refine New.alloc ?_ _ | with_reducible refine New.setCell ?_ (by first | (simp; done) | (simp; omega) | omega) _ | with_reducible refine New.trans ?_ (by with_reducible assumption)))) hw)) k98 k103⟩
    · intro a w9 hw ho hk
      refine .inl ⟨by rfl, ?_⟩
      obtain k104 : RdXs w9 (a.tmps[104]?.getD undef) [A.toks, [kwN 7], clV (looseA B) B.toks] := hk 11 104 (by kernel_rfl) rfl
      go_simp
      refine (concatX_any _ [A.toks, [kwN 7], clV (looseA B) B.toks] _ k104 (by intro x hx; simp only [List.mem_cons, List.not_mem_nil, or_false] at hx; rcases hx with rfl | rfl | rfl <;> first | (simp; done) | omega) (by simp)).mono ?_; rintro e w2 ⟨r, rfl, hb, o⟩
      have hzw := hw.size; obtain ⟨q, c, h9⟩ := o.slice; subst h9; rw [HTT.out] at o ⊢; first | exact ⟨hb, _, rfl, _, _, rfl, o.base (by simp only [World.size_alloc] at hzw; omega)⟩ | exact ⟨hb, _, _, by simp, o.base (by simp only [World.size_alloc] at hzw; omega)⟩
  intro w3 b3 x93 h93 x94 h94 x95 h95 x96 h96 x97 k97 x98 ⟨a98, c98, t98, k98⟩ x99 h99 x100 h100 x101 h101 x102 k102 x103 ⟨a103, c103, t103, k103⟩ x104 k104 x105 ⟨a105, c105, t105, o105⟩
  subst h93 h94 h95 h96 t98 h99 h100 h101 t103 t105
  try with_reducible replace b3 := New.undrawN b3
  try with_reducible replace b3 := New.undraw b3
  obtain ⟨c3, f3⟩ := b3.rules
  have z3 := b3.size
  try simp only [World.size_alloc, World.size_drew, World.heap_drewN, World.size_setCell] at z3
  have z3_0 : w.heap.size < w3.heap.size := by omega
  have z3_1 : w.heap.size + 1 < w3.heap.size := by omega
  simp only [RG.EndAll, List.nil_append, List.cons_append, List.length_cons, List.length_nil, Nat.zero_add, Nat.reduceAdd, List.take_succ_cons, List.take_zero, List.drop_succ_cons, List.drop_zero, RG.putAll, Act.put, List.setIfInBounds_toArray, List.set_cons_succ, List.set_cons_zero]
  have KB3 : Blk w3 (w.heap.size + 1) #[.slice none 0 0, .int .i64 0] 175 := Blk.new (Blk.alloc_at (by simp)) b3
  go_wp2_with fail
  exact ret_wr rfl (show New w w3 by exact (by repeat (first | with_reducible exact New.refl _ | with_reducible assumption | with_reducible refine New.drew ?_ | with_reducible refine New.drewN ?_ _ | with_reducible refine New.alloc ?_ _ | with_reducible refine New.setCell ?_ (by first | (simp; done) | (simp; omega) | omega) _ | with_reducible refine New.trans ?_ (by with_reducible assumption)))) (by omega) KB3 (o105) (by simp [results, Tryz.results142, go_sem, c3, f3, z3_0, z3_1])
end Go.Proofs.YteielmihlfakgaaGreatDoor
