/- Contracts: expression lists drawn from a code. -/
import Derived.WalkSpells
import Derived.Test.YteielmihlfakgaaGreatDoorProg
import Derived.Test.YteielmihlfakgaaGreatDoorVA
import Derived.Test.YteielmihlfakgaaGreatDoorVB
import Derived.Test.YteielmihlfakgaaGreatDoorCloneW
namespace Go.Proofs.YteielmihlfakgaaGreatDoor
open Go Go.Proofs Go.RowKit
set_option linter.unusedVariables false
set_option linter.unusedSimpArgs false
set_option maxRecDepth 100000
/-- A slice that reads, and that lies behind block S. -/
def RdX (S : Nat) (w : World) (v : Value) (n : Nat) (cs : List Value) : Prop := Rd w v n cs ∧ ∀ b o k c, v = .slice (some ⟨b, o, none⟩) k c → S < b
theorem RdX.dr {S : Nat} {w w' : World} {v : Value} {n : Nat} {cs : List Value} (h : RdX S w v n cs) (hb : Dr S w w') : RdX S w' v n cs := by
  obtain ⟨⟨a, cap, rfl, hn, h0, hc⟩, hS⟩ := h
  refine ⟨⟨a, cap, rfl, hn, h0, fun j u hu => ?_⟩, hS⟩
  obtain ⟨b', o, ha, hlt, hcell⟩ := hc j u hu
  subst ha
  exact ⟨b', o, rfl, Nat.lt_of_lt_of_le hlt hb.size, (hb.rules.2.1 _ _ (hS _ _ _ _ rfl) hlt).trans hcell⟩
theorem RdX.new {S : Nat} {w w' : World} {v : Value} {n : Nat} {cs : List Value} (h : RdX S w v n cs) (hb : New w w') : RdX S w' v n cs := ⟨Rd.new h.1 hb, h.2⟩
theorem own_rdX {S base : Nat} {w : World} {e : TypeId} {sz : Nat} {v : Value} {n : Nat} {cs : List Value} (h : w.ownsRow base e sz v n cs) (hS : S < base) : RdX S w v n cs :=
  ⟨own_rd h, fun b o k c e => by
    subst e
    have := (own_block_lt h b (by rcases h.2 with ⟨h1, _⟩ | ⟨g, cap, cur, h1, _⟩ <;> cases h1; rfl)).1
    omega⟩
/-- A list of terms of the call's own, drawn. -/
def DrawT (S n : Nat) (w : World) (e : Ending) (w' : World) : Prop := ∃ (v : Value) (ts : List ETerm), e = .returned v ∧ Dr S w w' ∧ w'.ownsRow w.heap.size 66 3 v ts.length (ts.flatMap encTerm) ∧ 1 ≤ ts.length ∧ ts.length ≤ n ∧ ∀ x ∈ ts, fitTerm x
theorem own_lit1 {w : World} {base : Nat} {cs : List Value} {T : TypeId} (hb : base ≤ w.heap.size) (hc : cs.length = 3) : (w.alloc (.cells cs.toArray T)).ownsRow base T 3 (.slice (some ⟨w.heap.size, 0, none⟩) 1 1) 1 cs :=
  ⟨by rw [hc], .inr ⟨w.heap.size, 1, cs.toArray, rfl, hb, Array.getElem?_push_size, Nat.le_refl _, by decide, by simp [hc], by rw [Nat.one_mul, List.take_of_length_le (by simp [hc])]⟩⟩
theorem drawT_one {S n : Nat} {w0 w : World} {fn : Func} {a : Act} {k : Int} {s : ByteArray} (hd : a.defers = []) (hD : Dr S w0 w) (hn : 1 ≤ n) (hs : s.size ≤ 1048576)
    (hr : (results fn a.tmps).run Tryz.prog (w.alloc (.cells #[.int .i64 k, .string s, .int .i64 0] 66)) = .ok (.slice (some ⟨w.heap.size, 0, none⟩) 1 1) (w.alloc (.cells #[.int .i64 k, .string s, .int .i64 0] 66))) :
    bodyPost Tryz.prog fn (DrawT S n w0) .ret a (w.alloc (.cells #[.int .i64 k, .string s, .int .i64 0] 66)) :=
  ⟨hd, _, hr, _, [⟨k, s, 0⟩], rfl, hD.alloc _, own_lit1 (cs := [.int .i64 k, .string s, .int .i64 0]) hD.size rfl, Nat.le_refl _, hn, fun x hx => by obtain rfl := List.mem_singleton.1 hx; exact hs⟩
theorem own_snocT {w : World} {base : Nat} {v : Value} {T : TypeId} {L : List ETerm} {k r : Int} {s : ByteArray} (h : w.ownsRow base T 3 v (L.length + 1) (L.flatMap encTerm ++ [.int .i64 k, .string s, .int .i64 r])) : w.ownsRow base T 3 v (L ++ [(⟨k, s, r⟩ : ETerm)]).length ((L ++ [(⟨k, s, r⟩ : ETerm)]).flatMap encTerm) := by
  simpa [List.flatMap_append, encTerm] using h
set_option maxHeartbeats 2000000 in
theorem drTerms_any {B : Nat} (S : Nat) : ∀ (d : Nat), d ≤ 10 → ∀ (nv : Value) (names : List ByteArray) (w : World) (hs : Src B S w) (hn : RdX S w nv names.length (names.map Value.string)) (h1 : 1 ≤ names.length) (hl : names.length ≤ 1000) (hf : ∀ x ∈ names, x.size ≤ 1048576),
    Calls Tryz.prog 110 #[.pointer (some ⟨S, 0, none⟩), nv, .int .i64 (d : Int)] w (DrawT S (2 ^ (d + 1) - 1) w) := by
  intro d
  induction d with
  | zero =>
    intro _ nv names w hs hn h1 hl hf
    have hS := hs.lt
    have HS := Lib.hid hs; clear hs
    have HN := Lib.hid hn
    obtain ⟨na, nc, rfl, _⟩ := hn.1
    clear hn
    have HF := Lib.hid hf
    go_enter Tryz.func110, Tryz.ntmps110
    go_wp2_with fail
    refine (l01Next_any S 12 _ (Dr.src ?hs10 HS.out)).mono ?_
    case hs10 => exact (by repeat (first | with_reducible refine Dr.setCell ?_ (by first | (simp; done) | (simp; omega) | omega) _ | with_reducible refine Dr.alloc ?_ _ | with_reducible exact Dr.refl _ _ | with_reducible assumption | with_reducible refine Dr.trans ?_ (by with_reducible assumption) | with_reducible refine Dr.trans ?_ (Dr.of_new (by with_reducible assumption)) | with_reducible refine Dr.drewN ?_ _ | with_reducible refine Dr.drew ?_))
    rintro e w2 ⟨r2, rfl, p2, q2, b2⟩
    have z2 := b2.size
    try simp only [World.size_alloc, World.size_drew, World.heap_drewN, World.size_setCell] at z2
    try clear c1_0 f1_0 K1_0
    try clear c1_1 f1_1 K1_1
    try clear c1_2 f1_2 K1_2
    try clear c1_3 f1_3 K1_3
    try clear c1_4 f1_4 K1_4
    try clear c1_5 f1_5 K1_5
    have y2 : S < w2.heap.size := by omega
    go_wp2_with fail
    · exact drawT_one rfl (by repeat (first | with_reducible refine Dr.setCell ?_ (by first | (simp; done) | (simp; omega) | omega) _ | with_reducible refine Dr.alloc ?_ _ | with_reducible exact Dr.refl _ _ | with_reducible assumption | with_reducible refine Dr.trans ?_ (by with_reducible assumption) | with_reducible refine Dr.trans ?_ (Dr.of_new (by with_reducible assumption)) | with_reducible refine Dr.drewN ?_ _ | with_reducible refine Dr.drew ?_)) (by omega) (show (0 : Nat) ≤ 1048576 by omega) (by simp [results, Tryz.results110, go_sem])
    · exact drawT_one rfl (by repeat (first | with_reducible refine Dr.setCell ?_ (by first | (simp; done) | (simp; omega) | omega) _ | with_reducible refine Dr.alloc ?_ _ | with_reducible exact Dr.refl _ _ | with_reducible assumption | with_reducible refine Dr.trans ?_ (by with_reducible assumption) | with_reducible refine Dr.trans ?_ (Dr.of_new (by with_reducible assumption)) | with_reducible refine Dr.drewN ?_ _ | with_reducible refine Dr.drew ?_)) (by omega) (show (0 : Nat) ≤ 1048576 by omega) (by simp [results, Tryz.results110, go_sem])
    · skip
      refine (l01Next_any S names.length _ (Dr.src ?hs11 HS.out)).mono ?_
      case hs11 => exact (by repeat (first | with_reducible refine Dr.setCell ?_ (by first | (simp; done) | (simp; omega) | omega) _ | with_reducible refine Dr.alloc ?_ _ | with_reducible exact Dr.refl _ _ | with_reducible assumption | with_reducible refine Dr.trans ?_ (by with_reducible assumption) | with_reducible refine Dr.trans ?_ (Dr.of_new (by with_reducible assumption)) | with_reducible refine Dr.drewN ?_ _ | with_reducible refine Dr.drew ?_))
      rintro e w3 ⟨r3, rfl, p3, q3, b3⟩
      obtain ⟨k, rfl⟩ := Int.eq_ofNat_of_zero_le p3; have hk : k < names.length := (by omega)
      have z3 := b3.size
      try simp only [World.size_alloc, World.size_drew, World.heap_drewN, World.size_setCell] at z3
      try clear c2_0 f2_0 K2_0
      try clear c2_1 f2_1 K2_1
      try clear c2_2 f2_2 K2_2
      try clear c2_3 f2_3 K2_3
      try clear c2_4 f2_4 K2_4
      try clear c2_5 f2_5 K2_5
      try clear c1_0 f1_0 K1_0
      try clear c1_1 f1_1 K1_1
      try clear c1_2 f1_2 K1_2
      try clear c1_3 f1_3 K1_3
      try clear c1_4 f1_4 K1_4
      try clear c1_5 f1_5 K1_5
      have y3 : S < w3.heap.size := by omega
      have hD3 : Dr S w w3 := (by repeat (first | with_reducible refine Dr.setCell ?_ (by first | (simp; done) | (simp; omega) | omega) _ | with_reducible refine Dr.alloc ?_ _ | with_reducible exact Dr.refl _ _ | with_reducible assumption | with_reducible refine Dr.trans ?_ (by with_reducible assumption) | with_reducible refine Dr.trans ?_ (Dr.of_new (by with_reducible assumption)) | with_reducible refine Dr.drewN ?_ _ | with_reducible refine Dr.drew ?_))
      have HX3 := HN.out.dr hD3
      obtain ⟨⟨_, _, he, _, _, hc⟩, _⟩ := HX3
      cases he
      obtain ⟨b, off, rfl, hbl, hx⟩ := hc k (.string names[k]) (by simp [hk])
      have hfs := HF.out names[k] (List.getElem_mem hk)
      generalize names[k] = nm at *
      clear hc
      go_wp2_with fail
      exact drawT_one rfl (by repeat (first | with_reducible refine Dr.setCell ?_ (by first | (simp; done) | (simp; omega) | omega) _ | with_reducible refine Dr.alloc ?_ _ | with_reducible exact Dr.refl _ _ | with_reducible assumption | with_reducible refine Dr.trans ?_ (by with_reducible assumption) | with_reducible refine Dr.trans ?_ (Dr.of_new (by with_reducible assumption)) | with_reducible refine Dr.drewN ?_ _ | with_reducible refine Dr.drew ?_)) (by omega) hfs (by simp [results, Tryz.results110, go_sem])
  | succ d ih =>
    intro hd nv names w hs hn h1 hl hf
    have hS := hs.lt
    have HS := Lib.hid hs; clear hs
    have HN := Lib.hid hn
    obtain ⟨na, nc, rfl, _⟩ := hn.1
    clear hn
    have HF := Lib.hid hf
    have HP2 := Lib.hid (show 2 ^ (d + 1 + 1) = 2 ^ (d + 1) + 2 ^ (d + 1) by rw [Nat.pow_succ]; omega)
    have hp2 : 2 ≤ 2 ^ (d + 1) := by have := Nat.pow_le_pow_right (show 0 < 2 by omega) (show 1 ≤ d + 1 by omega); omega
    have hp3 : 2 ^ (d + 1) ≤ 2048 := by have := Nat.pow_le_pow_right (show 0 < 2 by omega) (show d + 1 ≤ 11 by omega); omega
    have HIH := Lib.hid (fun (w0 : World) (D : Dr S w w0) => ih (by omega) _ names w0 (D.src HS.out) (HN.out.dr D) h1 hl hf)
    clear ih
    rw [HP2.out]
    generalize 2 ^ (d + 1) = m at *
    go_enter Tryz.func110, Tryz.ntmps110
    go_wp2_with fail
    refine (l01Next_any S 4 _ (Dr.src ?hs12 HS.out)).mono ?_
    case hs12 => exact (by repeat (first | with_reducible refine Dr.setCell ?_ (by first | (simp; done) | (simp; omega) | omega) _ | with_reducible refine Dr.alloc ?_ _ | with_reducible exact Dr.refl _ _ | with_reducible assumption | with_reducible refine Dr.trans ?_ (by with_reducible assumption) | with_reducible refine Dr.trans ?_ (Dr.of_new (by with_reducible assumption)) | with_reducible refine Dr.drewN ?_ _ | with_reducible refine Dr.drew ?_))
    rintro e w1 ⟨r1, rfl, p1, q1, b1⟩
    have z1 := b1.size
    try simp only [World.size_alloc, World.size_drew, World.heap_drewN, World.size_setCell] at z1
    have y1 : S < w1.heap.size := by omega
    go_wp2_with fail
    · skip
      refine (l01Next_any S 12 _ (Dr.src ?hs13 HS.out)).mono ?_
      case hs13 => exact (by repeat (first | with_reducible refine Dr.setCell ?_ (by first | (simp; done) | (simp; omega) | omega) _ | with_reducible refine Dr.alloc ?_ _ | with_reducible exact Dr.refl _ _ | with_reducible assumption | with_reducible refine Dr.trans ?_ (by with_reducible assumption) | with_reducible refine Dr.trans ?_ (Dr.of_new (by with_reducible assumption)) | with_reducible refine Dr.drewN ?_ _ | with_reducible refine Dr.drew ?_))
      rintro e w2 ⟨r2, rfl, p2, q2, b2⟩
      have z2 := b2.size
      try simp only [World.size_alloc, World.size_drew, World.heap_drewN, World.size_setCell] at z2
      try clear c1_0 f1_0 K1_0
      try clear c1_1 f1_1 K1_1
      try clear c1_2 f1_2 K1_2
      try clear c1_3 f1_3 K1_3
      try clear c1_4 f1_4 K1_4
      try clear c1_5 f1_5 K1_5
      have y2 : S < w2.heap.size := by omega
      go_wp2_with fail
      · exact drawT_one rfl (by repeat (first | with_reducible refine Dr.setCell ?_ (by first | (simp; done) | (simp; omega) | omega) _ | with_reducible refine Dr.alloc ?_ _ | with_reducible exact Dr.refl _ _ | with_reducible assumption | with_reducible refine Dr.trans ?_ (by with_reducible assumption) | with_reducible refine Dr.trans ?_ (Dr.of_new (by with_reducible assumption)) | with_reducible refine Dr.drewN ?_ _ | with_reducible refine Dr.drew ?_)) (by omega) (show (0 : Nat) ≤ 1048576 by omega) (by simp [results, Tryz.results110, go_sem])
      · exact drawT_one rfl (by repeat (first | with_reducible refine Dr.setCell ?_ (by first | (simp; done) | (simp; omega) | omega) _ | with_reducible refine Dr.alloc ?_ _ | with_reducible exact Dr.refl _ _ | with_reducible assumption | with_reducible refine Dr.trans ?_ (by with_reducible assumption) | with_reducible refine Dr.trans ?_ (Dr.of_new (by with_reducible assumption)) | with_reducible refine Dr.drewN ?_ _ | with_reducible refine Dr.drew ?_)) (by omega) (show (0 : Nat) ≤ 1048576 by omega) (by simp [results, Tryz.results110, go_sem])
      · skip
        refine (l01Next_any S names.length _ (Dr.src ?hs14 HS.out)).mono ?_
        case hs14 => exact (by repeat (first | with_reducible refine Dr.setCell ?_ (by first | (simp; done) | (simp; omega) | omega) _ | with_reducible refine Dr.alloc ?_ _ | with_reducible exact Dr.refl _ _ | with_reducible assumption | with_reducible refine Dr.trans ?_ (by with_reducible assumption) | with_reducible refine Dr.trans ?_ (Dr.of_new (by with_reducible assumption)) | with_reducible refine Dr.drewN ?_ _ | with_reducible refine Dr.drew ?_))
        rintro e w3 ⟨r3, rfl, p3, q3, b3⟩
        obtain ⟨k, rfl⟩ := Int.eq_ofNat_of_zero_le p3; have hk : k < names.length := (by omega)
        have z3 := b3.size
        try simp only [World.size_alloc, World.size_drew, World.heap_drewN, World.size_setCell] at z3
        try clear c2_0 f2_0 K2_0
        try clear c2_1 f2_1 K2_1
        try clear c2_2 f2_2 K2_2
        try clear c2_3 f2_3 K2_3
        try clear c2_4 f2_4 K2_4
        try clear c2_5 f2_5 K2_5
        try clear c1_0 f1_0 K1_0
        try clear c1_1 f1_1 K1_1
        try clear c1_2 f1_2 K1_2
        try clear c1_3 f1_3 K1_3
        try clear c1_4 f1_4 K1_4
        try clear c1_5 f1_5 K1_5
        have y3 : S < w3.heap.size := by omega
        have hD3 : Dr S w w3 := (by repeat (first | with_reducible refine Dr.setCell ?_ (by first | (simp; done) | (simp; omega) | omega) _ | with_reducible refine Dr.alloc ?_ _ | with_reducible exact Dr.refl _ _ | with_reducible assumption | with_reducible refine Dr.trans ?_ (by with_reducible assumption) | with_reducible refine Dr.trans ?_ (Dr.of_new (by with_reducible assumption)) | with_reducible refine Dr.drewN ?_ _ | with_reducible refine Dr.drew ?_))
        have HX3 := HN.out.dr hD3
        obtain ⟨⟨_, _, he, _, _, hc⟩, _⟩ := HX3
        cases he
        obtain ⟨b, off, rfl, hbl, hx⟩ := hc k (.string names[k]) (by simp [hk])
        have hfs := HF.out names[k] (List.getElem_mem hk)
        generalize names[k] = nm at *
        clear hc
        go_wp2_with fail
        exact drawT_one rfl (by repeat (first | with_reducible refine Dr.setCell ?_ (by first | (simp; done) | (simp; omega) | omega) _ | with_reducible refine Dr.alloc ?_ _ | with_reducible exact Dr.refl _ _ | with_reducible assumption | with_reducible refine Dr.trans ?_ (by with_reducible assumption) | with_reducible refine Dr.trans ?_ (Dr.of_new (by with_reducible assumption)) | with_reducible refine Dr.drewN ?_ _ | with_reducible refine Dr.drew ?_)) (by omega) hfs (by simp [results, Tryz.results110, go_sem])
    · skip
      refine (l01PickL_n S [4, 5, 6, 5, 6, 7, 8, 9, 10, 11, 12] _ _ (Dr.src ?hs15 HS.out)).mono ?_
      case hs15 => exact (by repeat (first | with_reducible refine Dr.setCell ?_ (by first | (simp; done) | (simp; omega) | omega) _ | with_reducible refine Dr.alloc ?_ _ | with_reducible exact Dr.refl _ _ | with_reducible assumption | with_reducible refine Dr.trans ?_ (by with_reducible assumption) | with_reducible refine Dr.trans ?_ (Dr.of_new (by with_reducible assumption)) | with_reducible refine Dr.drewN ?_ _ | with_reducible refine Dr.drew ?_))
      rintro e w4 ⟨kd, rfl, b4⟩
      have z4 := b4.size
      try simp only [World.size_alloc, World.size_drew, World.heap_drewN, World.size_setCell] at z4
      try clear c3_0 f3_0 K3_0
      try clear c3_1 f3_1 K3_1
      try clear c3_2 f3_2 K3_2
      try clear c3_3 f3_3 K3_3
      try clear c3_4 f3_4 K3_4
      try clear c3_5 f3_5 K3_5
      try clear c2_0 f2_0 K2_0
      try clear c2_1 f2_1 K2_1
      try clear c2_2 f2_2 K2_2
      try clear c2_3 f2_3 K2_3
      try clear c2_4 f2_4 K2_4
      try clear c2_5 f2_5 K2_5
      try clear c1_0 f1_0 K1_0
      try clear c1_1 f1_1 K1_1
      try clear c1_2 f1_2 K1_2
      try clear c1_3 f1_3 K1_3
      try clear c1_4 f1_4 K1_4
      try clear c1_5 f1_5 K1_5
      have y4 : S < w4.heap.size := by omega
      have D4 : Dr S w w4 := (by repeat (first | with_reducible refine Dr.setCell ?_ (by first | (simp; done) | (simp; omega) | omega) _ | with_reducible refine Dr.alloc ?_ _ | with_reducible exact Dr.refl _ _ | with_reducible assumption | with_reducible refine Dr.trans ?_ (by with_reducible assumption) | with_reducible refine Dr.trans ?_ (Dr.of_new (by with_reducible assumption)) | with_reducible refine Dr.drewN ?_ _ | with_reducible refine Dr.drew ?_))
      clear b1 b4
      go_wp2_with fail
      refine (HIH.out _ D4).mono ?_
      rintro e w5 ⟨v5, ts, rfl, b5, o5, h5a, h5b, h5f⟩
      have D5 := D4.trans b5
      have z4 := D4.size
      have z5 := D5.size
      have O5 := Lib.hid (own_base (base' := w.heap.size) o5 z4)
      have F5 := Lib.hid h5f
      clear o5 h5f b5
      obtain ⟨i0, hi, hz0, hz1, hz2⟩ := info_parts infoTerm
      go_wp2_with (first | (go_at_call 90; refine (sTakes_any _ _).mono ?_; rintro e _ ⟨rfl, rfl⟩))
      · refine (HIH.out _ D5).mono ?_
        rintro e w6 ⟨v6, ts2, rfl, b6, o6, h6a, h6b, h6f⟩
        have D6 := D5.trans b6
        have z6 := D6.size
        have O56 := own_dr O5.out b6 (by omega)
        have F6 := Lib.hid h6f
        have R6 := Lib.hid (own_rd o6)
        clear o6 h6f O5
        go_wp2_with (first | (at_builtin; refine wpList_append_rd rfl _ _ 24 rfl (w.heap.size) 66 i0 (Value.agg #[.int .i64 0, .string ⟨#[]⟩, .int .i64 0]) 3 32 Tryz.underlying24 hi hz0 hz1 hz2 rfl (by decide) _ _ _ rfl (O56) _ _ ((ts2).flatMap encTerm) rfl (R6.out) (flat_length encTerm 3 encTerm_len _) (encT_one _) (by unfold maxLen; omega) (by omega) (by first | (simp; done) | (simp; omega) | omega) ?_; intro va wa howna hgra))
        have DA := Dr.grown D6 hgra (fun q hq => (own_block_lt O56 q hq).1)
        have zA := DA.size
        rw [← List.flatMap_append, ← List.length_append] at howna
        have FA := Lib.hid (fun x (hx : x ∈ ts ++ ts2) => by rcases List.mem_append.1 hx with h | h; exact F5.out x h; exact F6.out x h)
        have hTl : ((ts ++ ts2)).length + 1 ≤ 4096 := by first | omega | (simp; omega)
        have hT2 : ((ts ++ ts2)).length + 1 ≤ m + m - 1 := by first | omega | (simp; omega)
        have hnb : some wa.heap.size ≠ (va).ownBlock := fun he => by have := (own_block_lt howna _ he.symm).2; omega
        have DW := (DA.alloc (.cells #[.int .i64 kd, .string ⟨#[]⟩, .int .i64 0] 66)).alloc (.cells #[.int .i64 kd, .string ⟨#[]⟩, .int .i64 0] 66)
        have own9 := (howna.alloc (.cells #[.int .i64 kd, .string ⟨#[]⟩, .int .i64 0] 66)).alloc (.cells #[.int .i64 kd, .string ⟨#[]⟩, .int .i64 0] 66)
        have zW := DA.size
        go_wp2_with (first | (go_at_call 131; refine (sCounts_any _ _).mono ?_; rintro e _ ⟨rfl, rfl⟩) | (at_builtin; refine wpList_append_own _ rfl _ _ 24 rfl (w.heap.size) 66 i0 (Value.agg #[.int .i64 0, .string ⟨#[]⟩, .int .i64 0]) 3 32 Tryz.underlying24 hi hz0 hz1 hz2 rfl (by decide) _ _ _ rfl (own9) ⟨wa.heap.size + 1, 0, none⟩ 1 1 [.int .i64 kd, .string ⟨#[]⟩, .int .i64 0] rfl rfl (fun j u hj => alloc_row (by first | rfl | simp) j u hj) (by intro u hu; simp at hu; rcases hu with rfl | rfl | rfl <;> rfl) (by unfold maxLen; omega) (by omega) (by first | (simp; done) | (simp; omega) | omega) ?_; intro va wa howna hgra _))
        · refine (l01Next_n S 4 _ ((DA.alloc _).src HS.out)).mono ?_
          rintro e w8 ⟨r8, rfl, b8⟩
          have D8 := (DA.alloc _).trans b8
          have z8 := b8.size
          simp only [World.size_alloc] at z8
          have KB : Blk w8 wa.heap.size #[.int .i64 kd, .string ⟨#[]⟩, .int .i64 0] 66 := (Blk.alloc_at rfl).dr b8 (by omega)
          obtain ⟨c8, f8⟩ := KB.rules
          have hB8 := KB.lt
          have own8 := own_setK (own_dr (howna.alloc _) b8 (by omega)) hnb (o := 2) (.int .i64 r8)
          have D9 := D8.setCell (p := ⟨wa.heap.size, 2, none⟩) (by simp; omega) (.int .i64 r8)
          clear own9 DW
          go_wp2_with (first | (at_builtin; refine wpList_append_own _ rfl _ _ 24 rfl (w.heap.size) 66 i0 (Value.agg #[.int .i64 0, .string ⟨#[]⟩, .int .i64 0]) 3 32 Tryz.underlying24 hi hz0 hz1 hz2 rfl (by decide) _ _ _ rfl (own8.alloc _) ⟨w8.heap.size, 0, none⟩ 1 1 [.int .i64 kd, .string ⟨#[]⟩, .int .i64 r8] rfl rfl (fun j u hj => alloc_row (by first | rfl | simp) j u hj) (by intro u hu; simp at hu; rcases hu with rfl | rfl | rfl <;> rfl) (by unfold maxLen; omega) (by omega) (by first | (simp; done) | (simp; omega) | omega) ?_; intro va wa howna hgra _))
          have D10 := Dr.grown (D9.alloc _) hgra (fun q hq => (own_block_lt own8 q hq).1)
          go_ret
          exact ⟨va, (ts ++ ts2) ++ [⟨kd, ⟨#[]⟩, r8⟩], rfl, D10, own_snocT howna, by simp only [List.length_append, List.length_singleton]; omega, by rw [List.length_append, List.length_singleton]; exact hT2, fun x hx => by rcases List.mem_append.1 hx with h | h; exact FA.out x h; obtain rfl := List.mem_singleton.1 h; exact (show (0 : Nat) ≤ 1048576 by omega)⟩
        · have D10 := Dr.grown DW hgra (fun q hq => (own_block_lt own9 q hq).1)
          go_ret
          exact ⟨va, (ts ++ ts2) ++ [⟨kd, ⟨#[]⟩, 0⟩], rfl, D10, own_snocT howna, by simp only [List.length_append, List.length_singleton]; omega, by rw [List.length_append, List.length_singleton]; exact hT2, fun x hx => by rcases List.mem_append.1 hx with h | h; exact FA.out x h; obtain rfl := List.mem_singleton.1 h; exact (show (0 : Nat) ≤ 1048576 by omega)⟩
      · skip
        have O5' := O5.out
        have hTl : (ts).length + 1 ≤ 4096 := by first | omega | (simp; omega)
        have hT2 : (ts).length + 1 ≤ m + m - 1 := by first | omega | (simp; omega)
        have hnb : some w5.heap.size ≠ (v5).ownBlock := fun he => by have := (own_block_lt O5' _ he.symm).2; omega
        have DW := (D5.alloc (.cells #[.int .i64 kd, .string ⟨#[]⟩, .int .i64 0] 66)).alloc (.cells #[.int .i64 kd, .string ⟨#[]⟩, .int .i64 0] 66)
        have own9 := (O5'.alloc (.cells #[.int .i64 kd, .string ⟨#[]⟩, .int .i64 0] 66)).alloc (.cells #[.int .i64 kd, .string ⟨#[]⟩, .int .i64 0] 66)
        have zW := D5.size
        go_wp2_with (first | (go_at_call 131; refine (sCounts_any _ _).mono ?_; rintro e _ ⟨rfl, rfl⟩) | (at_builtin; refine wpList_append_own _ rfl _ _ 24 rfl (w.heap.size) 66 i0 (Value.agg #[.int .i64 0, .string ⟨#[]⟩, .int .i64 0]) 3 32 Tryz.underlying24 hi hz0 hz1 hz2 rfl (by decide) _ _ _ rfl (own9) ⟨w5.heap.size + 1, 0, none⟩ 1 1 [.int .i64 kd, .string ⟨#[]⟩, .int .i64 0] rfl rfl (fun j u hj => alloc_row (by first | rfl | simp) j u hj) (by intro u hu; simp at hu; rcases hu with rfl | rfl | rfl <;> rfl) (by unfold maxLen; omega) (by omega) (by first | (simp; done) | (simp; omega) | omega) ?_; intro va wa howna hgra _))
        · refine (l01Next_n S 4 _ ((D5.alloc _).src HS.out)).mono ?_
          rintro e w8 ⟨r8, rfl, b8⟩
          have D8 := (D5.alloc _).trans b8
          have z8 := b8.size
          simp only [World.size_alloc] at z8
          have KB : Blk w8 w5.heap.size #[.int .i64 kd, .string ⟨#[]⟩, .int .i64 0] 66 := (Blk.alloc_at rfl).dr b8 (by omega)
          obtain ⟨c8, f8⟩ := KB.rules
          have hB8 := KB.lt
          have own8 := own_setK (own_dr (O5'.alloc _) b8 (by omega)) hnb (o := 2) (.int .i64 r8)
          have D9 := D8.setCell (p := ⟨w5.heap.size, 2, none⟩) (by simp; omega) (.int .i64 r8)
          clear own9 DW
          go_wp2_with (first | (at_builtin; refine wpList_append_own _ rfl _ _ 24 rfl (w.heap.size) 66 i0 (Value.agg #[.int .i64 0, .string ⟨#[]⟩, .int .i64 0]) 3 32 Tryz.underlying24 hi hz0 hz1 hz2 rfl (by decide) _ _ _ rfl (own8.alloc _) ⟨w8.heap.size, 0, none⟩ 1 1 [.int .i64 kd, .string ⟨#[]⟩, .int .i64 r8] rfl rfl (fun j u hj => alloc_row (by first | rfl | simp) j u hj) (by intro u hu; simp at hu; rcases hu with rfl | rfl | rfl <;> rfl) (by unfold maxLen; omega) (by omega) (by first | (simp; done) | (simp; omega) | omega) ?_; intro va wa howna hgra _))
          have D10 := Dr.grown (D9.alloc _) hgra (fun q hq => (own_block_lt own8 q hq).1)
          go_ret
          exact ⟨va, ts ++ [⟨kd, ⟨#[]⟩, r8⟩], rfl, D10, own_snocT howna, by simp only [List.length_append, List.length_singleton]; omega, by rw [List.length_append, List.length_singleton]; exact hT2, fun x hx => by rcases List.mem_append.1 hx with h | h; exact F5.out x h; obtain rfl := List.mem_singleton.1 h; exact (show (0 : Nat) ≤ 1048576 by omega)⟩
        · have D10 := Dr.grown DW hgra (fun q hq => (own_block_lt own9 q hq).1)
          go_ret
          exact ⟨va, ts ++ [⟨kd, ⟨#[]⟩, 0⟩], rfl, D10, own_snocT howna, by simp only [List.length_append, List.length_singleton]; omega, by rw [List.length_append, List.length_singleton]; exact hT2, fun x hx => by rcases List.mem_append.1 hx with h | h; exact F5.out x h; obtain rfl := List.mem_singleton.1 h; exact (show (0 : Nat) ≤ 1048576 by omega)⟩
end Go.Proofs.YteielmihlfakgaaGreatDoor
