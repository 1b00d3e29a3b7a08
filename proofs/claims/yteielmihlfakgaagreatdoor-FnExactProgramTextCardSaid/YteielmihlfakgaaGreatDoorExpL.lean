/- Contracts: tokens of a block's value: the program. -/
import Derived.Test.YteielmihlfakgaaGreatDoorProg
import Derived.Test.YteielmihlfakgaaGreatDoorExpJ
namespace Go.Proofs.YteielmihlfakgaaGreatDoor
open Go Go.Proofs Go.RowKit
set_option linter.unusedVariables false
set_option linter.unusedSimpArgs false
set_option maxRecDepth 100000
theorem rdX_oneB {w : World} {b : Nat} {k : Int} {s : ByteArray} {T : TypeId} (hb : b = w.heap.size) : RdX (w.alloc (.cells #[.int .i64 k, .string s] T)) (.slice (some ⟨b, 0, none⟩) 1 1) [s] := by
  subst hb; exact rdX_one
/-- Append of tokens to a row of the call's own; blocks of other types stay. -/
theorem wpList_append_XK {w : World} {ops : Array Oper} {rest : List Oper} {o : Oper} {a : Act} {Q : Exit → Act → World → Prop} (hgd : o.guard = none) (s x : Operand)
    (ho : o.op = .call { callee := .builtin .append, args := #[s, x], argTypes := #[88, 88] })
    (base : Nat) (v : Value) (A : List ByteArray) (hs : a.eval s = v) (hown : OwnX base w v A) (xv : Value) (B : List ByteArray) (hx : a.eval x = xv) (hrd : RdX w xv B)
    (hl : A.length + B.length ≤ 1000000) (hbase : base ≤ w.heap.size)
    (h : ∀ v' w', OwnX base w' v' (A ++ B) → (∀ W, New W w → W.heap.size ≤ base → New W w') → (∀ b cs E, Blk w b cs E → E ≠ 132 → Blk w' b cs E) → wpList Tryz.prog ops Q rest (a.put o.dst v') w') : wpList Tryz.prog ops Q (o :: rest) a w := by
  obtain ⟨i0, hi, hz0, hz1, hz2⟩ := info_parts infoToken
  obtain ⟨xs, hA, ow⟩ := hown
  obtain ⟨ys, hB, rd⟩ := hrd
  have l1 := txts_len hA
  have l2 := txts_len hB
  refine wpList_append_rd hgd s x 88 ho base 132 i0 (Value.agg #[.int .i64 0, .string ⟨#[]⟩]) 2 24 Tryz.underlying88 hi hz0 hz1 hz2 rfl (by decide) v xs.length _ hs ow xv ys.length _ hx rd (flat_length encToken 2 encToken_len _) (encK_one _) (by unfold maxLen; omega) (by omega) hbase ?_
  intro v' w' h1 hg
  refine h v' w' ⟨xs ++ ys, by rw [txts, List.map_append, ← txts, ← txts, hA, hB], ?_⟩ (fun W hW hb => New.grown hW hg (fun q hq => Nat.le_trans hb (own_block_lt ow q hq).1)) (fun b cs E hb hE => hb.grown hg (blk_ne_ownK hb ow hE))
  rw [List.length_append, List.flatMap_append]; exact h1
set_option maxHeartbeats 4000000 in
theorem iWriteBlk_any (k : Int) (nm : ByteArray) (n : Int) (L : List VT) (av : Value) (w : World) (hk7 : 7 ≤ k) (hk12 : k ≤ 12) (n0 : 0 ≤ n) (n1 : n ≤ 9999) (hk : KW w) (hp : PW w) (ha : RdW w av L) (hL : L.length = 1 ∨ L.length = 2) (hs : ∀ v ∈ L, v.toks.length ≤ 5000) :
    Calls Tryz.prog 142 #[.agg #[.int .i64 k, .string nm, .int .i64 n], av] w (RetWr w ([kwOf k, cOp] ++ argT L L.length ++ numT ⟨k, nm, n⟩ ++ [cCl]) k) := by
  obtain ⟨aa, ac, rfl, hm, hcp, _, HA⟩ := ha.open
  clear ha
  obtain ⟨_, _, e, _, _, hc⟩ := hk
  cases e
  have hc2 : ∀ j u, keys[j]? = some u → w.cell? ⟨0, j, none⟩ = some (.string u) ∧ 0 < w.heap.size := fun j u hu => by
    obtain ⟨b, off, e, hb, hx⟩ := hc j (.string u) (by simp [hu])
    cases e
    rw [Nat.zero_add] at hx
    exact ⟨hx, hb⟩
  obtain ⟨hx, hlt⟩ := hc2 _ _ (kwOf_at hk7 hk12)
  clear hc hc2
  have HD := Lib.hid (fun (w0 : World) (hn : New w w0) => by have h := iDecimal_any n w0 (by omega) (by omega) (hp.new hn); rw [itoa_nn n0] at h; exact h)
  clear hp
  have HN := Lib.hid (fun (w0 : World) => iNumbered_any k w0)
  have hnum : counts k = true ∧ numT ⟨k, nm, n⟩ = [cCo, strL (Lib.decDigits n.toNat)] ∨ counts k = false ∧ numT ⟨k, nm, n⟩ = [] := by
    rw [numT]; cases counts k <;> simp
  generalize strL (Lib.decDigits n.toNat) = DN at HD hnum
  have HS := Lib.hid (fun (j : Nat) (h : j < L.length) => hs L[j] (List.getElem_mem h))
  have hal : (argT L L.length).length ≤ 10001 := by
    rcases hL with h | h
    · have := HS.out 0 (by omega)
      rw [h]; simp [argT, show 0 < L.length by omega]; omega
    · have h1 := HS.out 0 (by omega)
      have h2 := HS.out 1 (by omega)
      rw [h]; simp [argT, show 0 < L.length by omega, show 1 < L.length by omega]; omega
  have HG := Lib.hid (show ∀ h : 0 < L.length, argT L 1 = L[0].toks from fun h => by simp [argT, h])
  have HG2 := Lib.hid (show ∀ h : 1 < L.length, argT L 2 = L[0].toks ++ cCo :: L[1].toks from fun h => by simp [argT, h, show 0 < L.length by omega])
  clear hs
  have ew1 : IntKind.i64.wrap (11 + k) = 11 + k := i64_in' _ (by omega) (by omega)
  have ew2 : IntKind.i64.wrap (11 + k - 7) = 11 + k - 7 := i64_in' _ (by omega) (by omega)
  have ek : (11 + k - 7).toNat = (k + 4).toNat := by omega
  have g1 : ¬ (11 + k - 7 < 0) := by omega
  have g2 : 11 + k - 7 < 17 := by omega
  have q1 : (k == 1) = false := by simp; omega
  have q2 : (k == 2) = false := by simp; omega
  have q3 : (k == 3) = false := by simp; omega
  have q4 : (k == 4) = false := by simp; omega
  have q5 : (k == 5) = false := by simp; omega
  have q6 : (k == 6) = false := by simp; omega
  have hlt1 : 0 < w.heap.size + 1 := by omega
  have hlt2 : 0 < w.heap.size + 1 + 1 := by omega
  generalize kwOf k = KWD at hx ⊢
  generalize counts k = CN at HN hnum
  generalize numT ⟨k, nm, n⟩ = NT at hnum ⊢
  obtain ⟨TT, hTT⟩ : ∃ TT, TT = [KWD, cOp] ++ argT L L.length ++ NT ++ [cCl] := ⟨_, rfl⟩
  rw [← hTT]
  replace hTT := Lib.hid hTT.symm
  have KB2 : Blk ((w.alloc (.cells #[.int .i64 k, .string nm, .int .i64 n] 66)).alloc (.cells #[.slice none 0 0, .int .i64 0] 175)) w.heap.size #[.int .i64 k, .string nm, .int .i64 n] 66 := Blk.alloc (Blk.alloc_at rfl) _
  have KR2 : Blk ((w.alloc (.cells #[.int .i64 k, .string nm, .int .i64 n] 66)).alloc (.cells #[.slice none 0 0, .int .i64 0] 175)) (w.heap.size + 1) #[.slice none 0 0, .int .i64 0] 175 := Blk.alloc_at (by simp)
  have NW2 : New w ((w.alloc (.cells #[.int .i64 k, .string nm, .int .i64 n] 66)).alloc (.cells #[.slice none 0 0, .int .i64 0] 175)) := by exact (by repeat (first | with_reducible exact New.refl _ | with_reducible assumption | with_reducible refine New.drew ?_ | with_reducible refine New.drewN ?_ _ | with_reducible refine New.alloc ?_ _ | with_reducible refine New.setCell ?_ (by first | (simp; done) | (simp; omega) | omega) _ | with_reducible refine New.trans ?_ (by with_reducible assumption)))
  have zW2 : ((w.alloc (.cells #[.int .i64 k, .string nm, .int .i64 n] 66)).alloc (.cells #[.slice none 0 0, .int .i64 0] 175)).heap.size = w.heap.size + 1 + 1 := by simp
  go_enter Tryz.func142, Tryz.ntmps142
  go_wp2_with fail
  refine (iTokensOf_any _ [KWD, cOp] _ (rdS_layB [KWD, cOp] _) (by simp)).mono ?_; rintro e w1 ⟨r1, rfl, b1, o1⟩
  obtain ⟨a1, k1, rfl⟩ := o1.slice; simp only [World.size_alloc] at o1
  obtain ⟨c1, f1⟩ := b1.rules
  have z1 := b1.size
  try simp only [World.size_alloc, World.size_drew, World.heap_drewN, World.size_setCell] at z1
  have z1_0 : w.heap.size < w1.heap.size := by omega
  have z1_1 : w.heap.size + 1 < w1.heap.size := by omega
  go_wp2_with fail
  have N1 : New ((w.alloc (.cells #[.int .i64 k, .string nm, .int .i64 n] 66)).alloc (.cells #[.slice none 0 0, .int .i64 0] 175)) w1 := ((New.refl _).alloc _).trans b1
  clear b1 c1 f1 z1 hx hlt hlt1 hlt2 ew1 ew2 ek g1 g2
  generalize (w.alloc (.cells #[.int .i64 k, .string nm, .int .i64 n] 66)).alloc (.cells #[.slice none 0 0, .int .i64 0] 175) = W2 at *
  replace o1 := o1.base (b' := W2.heap.size) (by omega)
  go_loopw [5, 20] (fun o i wr => ∃ j : Nat, j ≤ L.length ∧ i = .int .i64 j ∧ New W2 wr ∧ OwnX W2.heap.size wr o ([KWD, cOp] ++ argT L j)) (fun _ i _ => L.length - (intOf i).toNat)
  case atStart => exact ⟨0, Nat.zero_le _, rfl, N1, by simpa [argT] using o1⟩
  case round =>
    obtain ⟨j, hj, rfl, hN, hown⟩ := hrel
    clear o1 N1
    have hNz := hN.size
    have hNw := NW2.trans hN
    have KB := KB2.new hN
    have KR := KR2.new hN
    have lB := KB.lt
    have lR := KR.lt
    by_cases hlt : j < L.length
    · obtain ⟨cB, fB⟩ := KB.rules
      obtain ⟨b, off, sa, sc, rfl, hbl, x0, x1, hT⟩ := HA.out j hlt
      have y0 := (hNw.cell hbl).trans x0
      have y1 := (hNw.cell hbl).trans x1
      have hbr : b < wr.heap.size := by have := hNw.size; omega
      have RT := Lib.hid hT
      have hst := HS.out j hlt
      clear hT x0 x1
      rcases Nat.eq_zero_or_pos j with h0 | h0
      · subst h0
        simp only [Nat.zero_mul, Nat.add_zero] at y0 y1
        have HQ := Lib.hid (HG.out hlt)
        have hl0 : ([KWD, cOp] ++ argT L 0).length = 2 := rfl
        generalize L[0].kind = KA at *
        generalize L[0].toks = TA at *
        go_wp2_with (at_builtin; refine wpList_append_XK rfl _ _ rfl W2.heap.size _ _ rfl (hown.new (by exact (by repeat (first | with_reducible exact New.refl _ | with_reducible assumption | with_reducible refine New.drew ?_ | with_reducible refine New.drewN ?_ _ | with_reducible refine New.alloc ?_ _ | with_reducible refine New.setCell ?_ (by first | (simp; done) | (simp; omega) | omega) _ | with_reducible refine New.trans ?_ (by with_reducible assumption))))) _ (TA) rfl (RT.out.new (by exact (by repeat (first | with_reducible exact New.refl _ | with_reducible assumption | with_reducible refine New.drew ?_ | with_reducible refine New.drewN ?_ _ | with_reducible refine New.alloc ?_ _ | with_reducible refine New.setCell ?_ (by first | (simp; done) | (simp; omega) | omega) _ | with_reducible refine New.trans ?_ (by with_reducible assumption))))) (by first | (simp only [List.length_cons, List.length_nil, List.length_append] at *; omega) | omega) (by first | (simp; done) | (simp; omega) | omega) ?_; intro va1 wa1 ho1 hg1 hk1; have nA1 : New W2 wa1 := hg1 _ (by exact (by repeat (first | with_reducible exact New.refl _ | with_reducible assumption | with_reducible refine New.drew ?_ | with_reducible refine New.drewN ?_ _ | with_reducible refine New.alloc ?_ _ | with_reducible refine New.setCell ?_ (by first | (simp; done) | (simp; omega) | omega) _ | with_reducible refine New.trans ?_ (by with_reducible assumption)))) (Nat.le_refl _); skip)
        go_roundw
        case rel => exact ⟨0 + 1, by omega, by go_num, nA1, by rw [HQ.out]; simpa [argT] using ho1⟩
        case measure => simp [intOf]; omega
      · obtain rfl : j = 1 := by omega
        have hst0 := HS.out 0 (by omega)
        have HQ1 := Lib.hid (HG.out (by omega))
        have HQ := Lib.hid (HG2.out hlt)
        simp only [Nat.one_mul] at y0 y1
        rw [HQ1.out] at hown
        generalize L[1].kind = KA at *
        generalize L[1].toks = TA at *
        generalize L[0].toks = TZ at *
        have gA : (0 : Int) < ((1 : Nat) : Int) := by omega
        go_wp2_with (first | (at_builtin; refine wpList_append_XK rfl _ _ rfl W2.heap.size _ _ rfl (hown.new (by exact (by repeat (first | with_reducible exact New.refl _ | with_reducible assumption | with_reducible refine New.drew ?_ | with_reducible refine New.drewN ?_ _ | with_reducible refine New.alloc ?_ _ | with_reducible refine New.setCell ?_ (by first | (simp; done) | (simp; omega) | omega) _ | with_reducible refine New.trans ?_ (by with_reducible assumption))))) _ ([cCo]) rfl (rdX_oneB (by simp)) (by first | (simp only [List.length_cons, List.length_nil, List.length_append] at *; omega) | omega) (by first | (simp; done) | (simp; omega) | omega) ?_; intro va1 wa1 ho1 hg1 hk1; have nA1 : New W2 wa1 := hg1 _ (by exact (by repeat (first | with_reducible exact New.refl _ | with_reducible assumption | with_reducible refine New.drew ?_ | with_reducible refine New.drewN ?_ _ | with_reducible refine New.alloc ?_ _ | with_reducible refine New.setCell ?_ (by first | (simp; done) | (simp; omega) | omega) _ | with_reducible refine New.trans ?_ (by with_reducible assumption)))) (Nat.le_refl _); have KZ := hk1 _ _ _ (Blk.alloc (Blk.alloc_at rfl) _) (by decide); obtain ⟨cZ, fZ⟩ := KZ.rules; have lZ := KZ.lt) | (at_builtin; refine wpList_append_XK rfl _ _ rfl W2.heap.size _ _ rfl (ho1) _ (TA) rfl (RT.out.new (NW2.trans nA1)) (by first | (simp only [List.length_cons, List.length_nil, List.length_append] at *; omega) | omega) (by first | (simp; done) | (simp; omega) | omega) ?_; intro va2 wa2 ho2 hg2 hk2; have nA2 : New W2 wa2 := hg2 _ (by exact (by repeat (first | with_reducible exact New.refl _ | with_reducible assumption | with_reducible refine New.drew ?_ | with_reducible refine New.drewN ?_ _ | with_reducible refine New.alloc ?_ _ | with_reducible refine New.setCell ?_ (by first | (simp; done) | (simp; omega) | omega) _ | with_reducible refine New.trans ?_ (by with_reducible assumption)))) (Nat.le_refl _); skip))
        go_roundw
        case rel => exact ⟨1 + 1, by omega, by go_num, nA2, by rw [HQ.out]; simpa using ho2⟩
        case measure => simp [intOf]; omega
    · obtain rfl : j = L.length := by omega
      obtain ⟨cB, fB⟩ := KB.rules
      generalize argT L L.length = TA at *
      rcases hnum with ⟨rfl, rfl⟩ | ⟨rfl, rfl⟩
      · go_wp2_with (first | (go_at_call 124; refine (HN.out _).mono ?_; rintro e _ ⟨rfl, rfl⟩))
        refine (HD.out _ (by exact (by repeat (first | with_reducible exact New.refl _ | with_reducible assumption | with_reducible refine New.drew ?_ | with_reducible refine New.drewN ?_ _ | with_reducible refine New.alloc ?_ _ | with_reducible refine New.setCell ?_ (by first | (simp; done) | (simp; omega) | omega) _ | with_reducible refine New.trans ?_ (by with_reducible assumption))))).mono ?_; rintro e w3 ⟨rfl, b3⟩
        try with_reducible replace b3 := New.undrawN b3
        try with_reducible replace b3 := New.undraw b3
        obtain ⟨c3, f3⟩ := b3.rules
        have z3 := b3.size
        try simp only [World.size_alloc, World.size_drew, World.heap_drewN, World.size_setCell] at z3
        have z3_0 : w.heap.size < w3.heap.size := by omega
        have z3_1 : w.heap.size + 1 < w3.heap.size := by omega
        go_wp2_with fail
        refine (iTokensOf_any _ [cCo, DN] _ (rdS_layB [cCo, DN] _) (by simp)).mono ?_; rintro e w4 ⟨r4, rfl, b4, o4⟩
        obtain ⟨a4, k4, rfl⟩ := o4.slice
        obtain ⟨c4, f4⟩ := b4.rules
        have z4 := b4.size
        try simp only [World.size_alloc, World.size_drew, World.heap_drewN, World.size_setCell] at z4
        have z4_0 : w.heap.size < w4.heap.size := by omega
        have z4_1 : w.heap.size + 1 < w4.heap.size := by omega
        go_wp2_with (first | (at_builtin; refine wpList_append_XK rfl _ _ rfl W2.heap.size _ _ rfl (hown.new (by exact (by repeat (first | with_reducible exact New.refl _ | with_reducible assumption | with_reducible refine New.drew ?_ | with_reducible refine New.drewN ?_ _ | with_reducible refine New.alloc ?_ _ | with_reducible refine New.setCell ?_ (by first | (simp; done) | (simp; omega) | omega) _ | with_reducible refine New.trans ?_ (by with_reducible assumption))))) _ ([cCo, DN]) rfl (o4.rd) (by first  |  (simp only [List.length_cons, List.length_nil, List.length_append] at *; omega)  |  omega) (by first  |  (simp; done)  |  (simp; omega)  |  omega) ?_; intro va1 wa1 ho1 hg1 hk1; have nA1 : New W2 wa1 := hg1 _ (by exact (by repeat (first | with_reducible exact New.refl _ | with_reducible assumption | with_reducible refine New.drew ?_ | with_reducible refine New.drewN ?_ _ | with_reducible refine New.alloc ?_ _ | with_reducible refine New.setCell ?_ (by first | (simp; done) | (simp; omega) | omega) _ | with_reducible refine New.trans ?_ (by with_reducible assumption)))) (Nat.le_refl _); obtain ⟨cA1, fA1⟩ := (KB2.new nA1).rules; have lA1 := (KB2.new nA1).lt; have zA1 := nA1.size) | (at_builtin; refine wpList_append_XK rfl _ _ rfl W2.heap.size _ _ rfl (ho1.new (by exact (by repeat (first | with_reducible exact New.refl _ | with_reducible assumption | with_reducible refine New.drew ?_ | with_reducible refine New.drewN ?_ _ | with_reducible refine New.alloc ?_ _ | with_reducible refine New.setCell ?_ (by first | (simp; done) | (simp; omega) | omega) _ | with_reducible refine New.trans ?_ (by with_reducible assumption))))) _ ([cCl]) rfl (rdX_oneB (by simp)) (by first  |  (simp only [List.length_cons, List.length_nil, List.length_append] at *; omega)  |  omega) (by first  |  (simp; done)  |  (simp; omega)  |  omega) ?_; intro va2 wa2 ho2 hg2 hk2; have nA2 : New W2 wa2 := hg2 _ (by exact (by repeat (first | with_reducible exact New.refl _ | with_reducible assumption | with_reducible refine New.drew ?_ | with_reducible refine New.drewN ?_ _ | with_reducible refine New.alloc ?_ _ | with_reducible refine New.setCell ?_ (by first | (simp; done) | (simp; omega) | omega) _ | with_reducible refine New.trans ?_ (by with_reducible assumption)))) (Nat.le_refl _); rw [hTT.out] at ho2; obtain ⟨aa2, ka2, rfl⟩ := ho2.slice; obtain ⟨cA2, fA2⟩ := (KB2.new nA2).rules; have lA2 := (KB2.new nA2).lt; obtain ⟨cR2, fR2⟩ := (KR2.new nA2).rules; have lR2 := (KR2.new nA2).lt))
        exact ret_wr rfl (NW2.trans nA2) (by omega) (KR2.new nA2) (ho2.base (by omega)) (by simp [results, Tryz.results142, go_sem, cR2, fR2, lR2])
      · replace hTT := Lib.hid (show [KWD, cOp] ++ TA ++ [cCl] = TT by have := hTT.out; simpa using this)
        go_wp2_with (first | (go_at_call 124; refine (HN.out _).mono ?_; rintro e _ ⟨rfl, rfl⟩) | (at_builtin; refine wpList_append_XK rfl _ _ rfl W2.heap.size _ _ rfl (hown.new (by exact (by repeat (first | with_reducible exact New.refl _ | with_reducible assumption | with_reducible refine New.drew ?_ | with_reducible refine New.drewN ?_ _ | with_reducible refine New.alloc ?_ _ | with_reducible refine New.setCell ?_ (by first | (simp; done) | (simp; omega) | omega) _ | with_reducible refine New.trans ?_ (by with_reducible assumption))))) _ ([cCl]) rfl (rdX_oneB (by simp)) (by first  |  (simp only [List.length_cons, List.length_nil, List.length_append] at *; omega)  |  omega) (by first  |  (simp; done)  |  (simp; omega)  |  omega) ?_; intro va2 wa2 ho2 hg2 hk2; have nA2 : New W2 wa2 := hg2 _ (by exact (by repeat (first | with_reducible exact New.refl _ | with_reducible assumption | with_reducible refine New.drew ?_ | with_reducible refine New.drewN ?_ _ | with_reducible refine New.alloc ?_ _ | with_reducible refine New.setCell ?_ (by first | (simp; done) | (simp; omega) | omega) _ | with_reducible refine New.trans ?_ (by with_reducible assumption)))) (Nat.le_refl _); rw [hTT.out] at ho2; obtain ⟨aa2, ka2, rfl⟩ := ho2.slice; obtain ⟨cA2, fA2⟩ := (KB2.new nA2).rules; have lA2 := (KB2.new nA2).lt; obtain ⟨cR2, fR2⟩ := (KR2.new nA2).rules; have lR2 := (KR2.new nA2).lt))
        exact ret_wr rfl (NW2.trans nA2) (by omega) (KR2.new nA2) (ho2.base (by omega)) (by simp [results, Tryz.results142, go_sem, cR2, fR2, lR2])
end Go.Proofs.YteielmihlfakgaaGreatDoor
