/- Drawn numbers: the source at block S, and worlds that differ by draws from it and by new blocks. No program in sight. -/
import Derived.Test.YteielmihlfakgaaDoorCells
import Derived.Test.YteielmihlfakgaaDoorProg
namespace Go.Proofs.YteielmihlfakgaaDoor
open Go Go.RowKit
set_option linter.unusedVariables false
set_option linter.unusedSimpArgs false

/-- w' is w but for block S and new blocks. -/
structure DrO (S : Nat) (w w' : World) : Prop where
  os : w'.os = w.os
  tape : w'.tape = w.tape
  output : w'.output = w.output
  size : w.heap.size ≤ w'.heap.size
  other : ∀ k, k < w.heap.size → k ≠ S → w'.heap[k]? = w.heap[k]?
theorem DrO.refl (S : Nat) (w : World) : DrO S w w := ⟨rfl, rfl, rfl, Nat.le_refl _, fun _ _ _ => rfl⟩
theorem DrO.trans {S : Nat} {a b c : World} (h : DrO S a b) (k : DrO S b c) : DrO S a c :=
  ⟨k.os.trans h.os, k.tape.trans h.tape, k.output.trans h.output, Nat.le_trans h.size k.size, fun i hi hn => (k.other i (Nat.lt_of_lt_of_le hi h.size) hn).trans (h.other i hi hn)⟩
theorem DrO.of_new {S : Nat} {w w' : World} (h : New w w') : DrO S w w' := ⟨h.os, h.tape, h.output, h.size, fun k hk _ => h.block k hk⟩
theorem DrO.setS {S : Nat} {a w : World} (h : DrO S a w) (o : Nat) (u : Value) : DrO S a (w.setCell ⟨S, o, none⟩ u) :=
  h.trans ⟨rfl, rfl, rfl, by simp [World.setCell], fun k _ hn => Below.heap_setCell _ _ _ _ hn⟩

/-- A slice that reads below block B. -/
def RdB (B : Nat) (w : World) (v : Value) (n : Nat) (cs : List Value) : Prop :=
  ∃ (a : Option Addr) (cap : Nat), v = .slice a n cap ∧ n ≤ 9223372036854775807 ∧ ((a = none → n = 0) ∧ n ≤ cap) ∧
    ∀ j u, cs[j]? = some u → ∃ b off, a = some ⟨b, off, none⟩ ∧ b < B ∧ w.cell? ⟨b, off + j, none⟩ = some u
theorem Rd.toB {w : World} {v : Value} {n : Nat} {cs : List Value} (h : Rd w v n cs) : RdB w.heap.size w v n cs := h
theorem RdB.same {B : Nat} {w w' : World} {v : Value} {n : Nat} {cs : List Value} (h : RdB B w v n cs) (hk : ∀ k, k < B → w'.heap[k]? = w.heap[k]?) : RdB B w' v n cs := by
  obtain ⟨a, cap, rfl, hn, h0, hc⟩ := h
  refine ⟨a, cap, rfl, hn, h0, fun j u hu => ?_⟩
  obtain ⟨b, off, ha, hlt, hcell⟩ := hc j u hu
  exact ⟨b, off, ha, hlt, (World.cell?_of_block (hk b hlt)).trans hcell⟩
/-- The source: a code's bytes, read below B; how many are used; the seed. -/
structure SrcE (B S : Nat) (w : World) (cv : Value) (bs : List Int) (p : Nat) (sd : Int) : Prop where
  code : RdB B w cv bs.length (bs.map (Value.int .u8))
  below : B ≤ S
  bytes : ∀ c ∈ bs, 0 ≤ c ∧ c ≤ 255
  len : bs.length ≤ 4096
  place : p ≤ bs.length
  seed0 : 0 ≤ sd
  seed1 : sd ≤ 2147483646
  cells : ∃ T, w.heap[S]? = some (.cells #[cv, .int .i64 (p : Int), .int .i64 sd] T (0, 0))
def Src (B S : Nat) (w : World) : Prop := ∃ cv bs p sd, SrcE B S w cv bs p sd
theorem heap_lt {w : World} {S : Nat} {o : Obj} (h : w.heap[S]? = some o) : S < w.heap.size := (Array.getElem?_eq_some_iff.1 h).1
theorem SrcE.lt {B S : Nat} {w : World} {cv : Value} {bs : List Int} {p : Nat} {sd : Int} (h : SrcE B S w cv bs p sd) : S < w.heap.size := by
  obtain ⟨T, h⟩ := h.cells; exact heap_lt h
theorem Src.lt {B S : Nat} {w : World} (h : Src B S w) : S < w.heap.size := by
  obtain ⟨_, _, _, _, h⟩ := h; exact h.lt
theorem Src.le {B S : Nat} {w : World} (h : Src B S w) : B ≤ S := by
  obtain ⟨_, _, _, _, h⟩ := h; exact h.below
theorem SrcE.moved {B S : Nat} {w w' : World} {cv : Value} {bs : List Int} {p : Nat} {sd : Int} (h : SrcE B S w cv bs p sd) (hk : ∀ k, k < B → w'.heap[k]? = w.heap[k]?) (hs : w'.heap[S]? = w.heap[S]?) : SrcE B S w' cv bs p sd := by
  obtain ⟨hc, h0, hb, hl, hp, h4, h5, T, hT⟩ := h
  exact ⟨hc.same hk, h0, hb, hl, hp, h4, h5, T, hs.trans hT⟩
theorem SrcE.same {B S : Nat} {w w' : World} {cv : Value} {bs : List Int} {p : Nat} {sd : Int} (h : SrcE B S w cv bs p sd) (ho : DrO S w w') (hs : w'.heap[S]? = w.heap[S]?) : SrcE B S w' cv bs p sd :=
  h.moved (fun k hk => ho.other k (by have := h.lt; have := h.below; omega) (by have := h.below; omega)) hs
theorem heap_alloc_self (w : World) (o : Obj) : (w.alloc o).heap[w.heap.size]? = some o := by show (w.heap.push o)[w.heap.size]? = some o; simp
theorem heap_setCell_self {w : World} {S o : Nat} {c : Array Value} {T : TypeId} {f : Nat × Nat} (h : w.heap[S]? = some (.cells c T f)) (u : Value) : (w.setCell ⟨S, o, none⟩ u).heap[S]? = some (.cells (c.setIfInBounds o u) T f) := by
  simp [World.setCell, Array.getElem?_modify, h]
theorem SrcE.set1 {B S : Nat} {w : World} {cv : Value} {bs : List Int} {p q : Nat} {sd : Int} (h : SrcE B S w cv bs p sd) (hq : q ≤ bs.length) : SrcE B S (w.setCell ⟨S, 1, none⟩ (.int .i64 (q : Int))) cv bs q sd := by
  obtain ⟨T, hc⟩ := h.cells
  exact ⟨h.code.same (fun k hk => Below.heap_setCell _ _ _ _ (by have := h.below; show k ≠ S; omega)), h.below, h.bytes, h.len, hq, h.seed0, h.seed1, T, heap_setCell_self hc _⟩
theorem SrcE.set2 {B S : Nat} {w : World} {cv : Value} {bs : List Int} {p : Nat} {sd s' : Int} (h : SrcE B S w cv bs p sd) (h0 : 0 ≤ s') (h1 : s' ≤ 2147483646) : SrcE B S (w.setCell ⟨S, 2, none⟩ (.int .i64 s')) cv bs p s' := by
  obtain ⟨T, hc⟩ := h.cells
  exact ⟨h.code.same (fun k hk => Below.heap_setCell _ _ _ _ (by have := h.below; show k ≠ S; omega)), h.below, h.bytes, h.len, h.place, h0, h1, T, heap_setCell_self hc _⟩
theorem SrcE.new {B S : Nat} {w w' : World} {cv : Value} {bs : List Int} {p : Nat} {sd : Int} (h : SrcE B S w cv bs p sd) (hn : New w w') : SrcE B S w' cv bs p sd := h.same (DrO.of_new hn) (hn.block S h.lt)
/-- What a walk wants of the source. -/
theorem SrcE.open {B S : Nat} {w : World} {cv : Value} {bs : List Int} {p : Nat} {sd : Int} (h : SrcE B S w cv bs p sd) :
    w.cell? ⟨S, 0, none⟩ = some cv ∧ w.cell? ⟨S, 1, none⟩ = some (.int .i64 (p : Int)) ∧ w.cell? ⟨S, 2, none⟩ = some (.int .i64 sd) ∧ w.frozen? ⟨S, 1, none⟩ = false ∧ w.frozen? ⟨S, 2, none⟩ = false := by
  obtain ⟨T, hc⟩ := h.cells
  exact ⟨by simp [World.cell?, hc], by simp [World.cell?, hc], by simp [World.cell?, hc], by simp [World.frozen?, hc], by simp [World.frozen?, hc]⟩

/-- w' is w but for draws from the source at S, and new blocks. -/
structure Dr (S : Nat) (w w' : World) : Prop where
  o : DrO S w w'
  src : ∀ {B}, Src B S w → Src B S w'
theorem Dr.refl (S : Nat) (w : World) : Dr S w w := ⟨DrO.refl S w, id⟩
theorem Dr.trans {S : Nat} {a b c : World} (h : Dr S a b) (k : Dr S b c) : Dr S a c := ⟨h.o.trans k.o, fun s => k.src (h.src s)⟩
theorem Dr.of_new {S : Nat} {w w' : World} (h : New w w') : Dr S w w' := ⟨DrO.of_new h, fun ⟨cv, bs, p, sd, s⟩ => ⟨cv, bs, p, sd, s.same (DrO.of_new h) (h.block S s.lt)⟩⟩
theorem Dr.size {S : Nat} {w w' : World} (h : Dr S w w') : w.heap.size ≤ w'.heap.size := h.o.size
theorem Dr.alloc {S : Nat} {a w : World} (h : Dr S a w) (o : Obj) : Dr S a (w.alloc o) := h.trans (Dr.of_new ((New.refl w).alloc o))
theorem Dr.drew {S : Nat} {a w : World} (h : Dr S a w) : Dr S a w.drew := h.trans (Dr.of_new (New.refl w).drew)
theorem Dr.drewN {S : Nat} {a w : World} (h : Dr S a w) (n : Nat) : Dr S a (w.drewN n) := h.trans (Dr.of_new ((New.refl w).drewN n))
theorem Src.kept {B S : Nat} {a w w' : World} (s0 : Src B S a) (s : Src B S w) (hb : Below a.heap.size w w') : Src B S w' := by
  obtain ⟨cv, bs, p, sd, s⟩ := s
  have hl := s0.lt
  exact ⟨cv, bs, p, sd, s.moved (fun k hk => hb.block k (by have := s.below; omega)) (hb.block S hl)⟩
theorem Dr.below {S : Nat} {a w w' : World} (h : Dr S a w) (hb : Below a.heap.size w w') : Dr S a w' :=
  ⟨⟨hb.os.trans h.o.os, hb.tape.trans h.o.tape, hb.output.trans h.o.output, Nat.le_trans h.size hb.size, fun k hk hn => (hb.block k hk).trans (h.o.other k hk hn)⟩, fun s => Src.kept s (h.src s) hb⟩
theorem Dr.setCell {S : Nat} {a w : World} (h : Dr S a w) {p : Addr} (hp : a.heap.size ≤ p.block) (u : Value) : Dr S a (w.setCell p u) := h.below ((Below.refl _ _).setCell hp u)
theorem Dr.grown {S : Nat} {a w w' : World} {row : Option Nat} (h : Dr S a w) (hg : w.grownBy w' row) (hr : ∀ k, row = some k → a.heap.size ≤ k) : Dr S a w' := h.below ((Below.refl _ _).grown hg h.size hr)
theorem Dr.undrawN {S : Nat} {w w' : World} {n : Nat} (h : Dr S (w.drewN n) w') : Dr S w w' := ((Dr.refl S w).drewN n).trans h
theorem Dr.undraw {S : Nat} {w w' : World} (h : Dr S w.drew w') : Dr S w w' := (Dr.refl S w).drew.trans h
theorem Dr.rules {S : Nat} {w w' : World} (h : Dr S w w') : (∀ b o, b < S → b < w.heap.size → w'.cell? ⟨b, o, none⟩ = w.cell? ⟨b, o, none⟩) ∧ (∀ b o, S < b → b < w.heap.size → w'.cell? ⟨b, o, none⟩ = w.cell? ⟨b, o, none⟩) ∧
    (∀ b o, b < S → b < w.heap.size → w'.frozen? ⟨b, o, none⟩ = w.frozen? ⟨b, o, none⟩) ∧ (∀ b o, S < b → b < w.heap.size → w'.frozen? ⟨b, o, none⟩ = w.frozen? ⟨b, o, none⟩) :=
  ⟨fun b o h1 h2 => World.cell?_of_block (h.o.other b h2 (by omega)), fun b o h1 h2 => World.cell?_of_block (h.o.other b h2 (by omega)), fun b o h1 h2 => World.frozen?_of_block (h.o.other b h2 (by omega)), fun b o h1 h2 => World.frozen?_of_block (h.o.other b h2 (by omega))⟩
theorem SrcE.at {B B' S : Nat} {w : World} {cv cv' : Value} {bs bs' : List Int} {p p' : Nat} {sd sd' : Int} (h : SrcE B S w cv bs p sd) (h' : SrcE B' S w cv' bs' p' sd') : cv' = cv ∧ p' = p ∧ sd' = sd := by
  obtain ⟨T, hc⟩ := h.cells
  obtain ⟨T', hc'⟩ := h'.cells
  have := hc.symm.trans hc'
  simp at this
  exact ⟨this.1.1.symm, by omega, this.1.2.2.symm⟩
theorem SrcE.dr1 {B S : Nat} {w : World} {cv : Value} {bs : List Int} {p : Nat} {sd s' : Int} (h : SrcE B S w cv bs p sd) (h0 : 0 ≤ s') (h1 : s' < 2147483647) (n : Nat) : Dr S w ((w.setCell ⟨S, 2, none⟩ (.int .i64 s')).drewN n) :=
  ⟨((DrO.refl S w).setS _ _).trans (DrO.of_new ((New.refl _).drewN _)), fun ⟨_, _, _, _, k⟩ => ⟨_, _, _, _, (k.set2 h0 (by omega)).new ((New.refl _).drewN _)⟩⟩
theorem SrcE.dr2 {B S : Nat} {w : World} {cv : Value} {bs : List Int} {p : Nat} {sd s' : Int} (h : SrcE B S w cv bs p sd) (h0 : 0 ≤ s') (h1 : s' < 2147483647) (hp : p < bs.length) (n : Nat) :
    Dr S w (((w.setCell ⟨S, 2, none⟩ (.int .i64 s')).drewN n).setCell ⟨S, 1, none⟩ (.int .i64 ((p : Int) + 1))) := by
  refine ⟨(((DrO.refl S w).setS _ _).trans (DrO.of_new ((New.refl _).drewN _))).setS _ _, fun ⟨cv', bs', p', sd'', k⟩ => ?_⟩
  obtain ⟨e1, e2, e3⟩ := h.at k
  subst e2
  have hl : bs'.length = bs.length := by
    obtain ⟨a, c, q, _⟩ := h.code
    obtain ⟨a', c', q', _⟩ := k.code
    rw [e1, q] at q'
    simp at q'
    exact q'.2.1.symm
  exact ⟨_, _, _, _, ((k.set2 h0 (by omega)).new ((New.refl _).drewN n)).set1 (q := p' + 1) (by omega)⟩
/-- A block known whole. -/
def Blk (w : World) (b : Nat) (cs : Array Value) (T : TypeId) : Prop := w.heap[b]? = some (.cells cs T (0, 0))
theorem Blk.alloc_at {w : World} {cs : Array Value} {T : TypeId} {b : Nat} (h : b = w.heap.size) : Blk (w.alloc (.cells cs T)) b cs T := by subst h; exact heap_alloc_self _ _
theorem Blk.lt {w : World} {b : Nat} {cs : Array Value} {T : TypeId} (h : Blk w b cs T) : b < w.heap.size := heap_lt h
theorem Blk.dr {S : Nat} {w w' : World} {b : Nat} {cs : Array Value} {T : TypeId} (h : Blk w b cs T) (hd : Dr S w w') (hn : b ≠ S) : Blk w' b cs T := (hd.o.other b h.lt hn).trans h
theorem Blk.new {w w' : World} {b : Nat} {cs : Array Value} {T : TypeId} (h : Blk w b cs T) (hd : New w w') : Blk w' b cs T := (hd.block b h.lt).trans h
theorem Blk.alloc {w : World} {b : Nat} {cs : Array Value} {T : TypeId} (h : Blk w b cs T) (o : Obj) : Blk (w.alloc o) b cs T := h.new ((New.refl w).alloc o)
theorem Blk.drew {w : World} {b : Nat} {cs : Array Value} {T : TypeId} (h : Blk w b cs T) : Blk w.drew b cs T := h.new (New.refl w).drew
theorem Blk.drewN {w : World} {b : Nat} {cs : Array Value} {T : TypeId} (h : Blk w b cs T) (n : Nat) : Blk (w.drewN n) b cs T := h.new ((New.refl w).drewN n)
theorem Blk.set {w : World} {b : Nat} {cs : Array Value} {T : TypeId} (h : Blk w b cs T) (o : Nat) (u : Value) : Blk (w.setCell ⟨b, o, none⟩ u) b (cs.setIfInBounds o u) T := heap_setCell_self h u
theorem Blk.set_ne {w : World} {b g o : Nat} {cs : Array Value} {T : TypeId} (h : Blk w b cs T) (hn : b ≠ g) (u : Value) : Blk (w.setCell ⟨g, o, none⟩ u) b cs T := (Below.heap_setCell _ _ _ _ hn).trans h
theorem Blk.rules {w : World} {b : Nat} {cs : Array Value} {T : TypeId} (h : Blk w b cs T) : (∀ o, w.cell? ⟨b, o, none⟩ = cs[o]?) ∧ (∀ o, w.frozen? ⟨b, o, none⟩ = false) := by
  unfold Blk at h
  exact ⟨fun o => by simp [World.cell?, h], fun o => by simp [World.frozen?, h]⟩
theorem Blk.use {w : World} {b : Nat} {cs : Array Value} {T : TypeId} {G : Prop} (h : Blk w b cs T) (k : Blk w b cs T → G) : G := k h
theorem Blk.grown {w w' : World} {b : Nat} {cs : Array Value} {T : TypeId} {row : Option Nat} (h : Blk w b cs T) (hg : w.grownBy w' row) (hr : some b ≠ row) : Blk w' b cs T := (hg.block b h.lt hr).trans h
/-- A row of the call's own, behind draws. -/
theorem own_dr {S : Nat} {w w' : World} {base : Nat} {e : TypeId} {sz : Nat} {v : Value} {n : Nat} {cs : List Value} (h : w.ownsRow base e sz v n cs) (hb : Dr S w w') (hS : S < base) : w'.ownsRow base e sz v n cs := by
  refine ⟨h.1, ?_⟩
  rcases h.2 with hn | ⟨g, cap, cur, rfl, hg, hgg, rest⟩
  · exact .inl hn
  · exact .inr ⟨g, cap, cur, rfl, hg, (hb.o.other g (Array.getElem?_eq_some_iff.1 hgg).1 (by omega)).trans hgg, rest⟩
/-- The source is one of the call's own: seen from the world ahead of it, there are new blocks alone. -/
theorem Dr.new {S : Nat} {w0 w w' : World} (hn : New w0 w) (h : Dr S w w') (hS : w0.heap.size ≤ S) : New w0 w' :=
  ⟨h.o.os.trans hn.os, h.o.tape.trans hn.tape, h.o.output.trans hn.output, Nat.le_trans hn.size h.size, fun k hk => (h.o.other k (Nat.lt_of_lt_of_le hk hn.size) (by omega)).trans (hn.block k hk)⟩
/-- A slice that a draw does not touch. -/
def RdA (S : Nat) (w : World) (v : Value) (xs : List Int) : Prop := ∃ b n c, v = .slice (some ⟨b, 0, none⟩) n c ∧ S < b ∧ RdI w v xs
theorem RdA.dr {S : Nat} {w w' : World} {v : Value} {xs : List Int} (h : RdA S w v xs) (hb : Dr S w w') : RdA S w' v xs := by
  obtain ⟨b, n, c, rfl, hS, a, cap, e, hn, h0, hc⟩ := h
  refine ⟨b, n, c, rfl, hS, a, cap, e, hn, h0, fun j u hu => ?_⟩
  obtain ⟨b', o, ha, hlt, hcell⟩ := hc j u hu
  refine ⟨b', o, ha, Nat.lt_of_lt_of_le hlt hb.size, ?_⟩
  subst ha
  cases e
  exact (hb.rules.2.1 _ _ hS hlt).trans hcell
theorem rdA_lit {S : Nat} {w : World} (xs : List Int) {T : TypeId} (hS : S < w.heap.size) (hx : xs.length ≤ 1048576 := by simp) : RdA S (w.alloc (.cells (xs.map (Value.int .i64)).toArray T)) (.slice (some ⟨w.heap.size, 0, none⟩) xs.length xs.length) xs := by
  refine ⟨_, _, _, rfl, hS, _, _, rfl, by omega, ⟨(fun h => nomatch h), Nat.le_refl _⟩, fun j u hu => ⟨_, 0, rfl, by simp, ?_⟩⟩
  rw [cell_alloc_new _ _ _ _ _ rfl]
  simpa using hu
/-- Some number, behind draws. -/
def DrawN (S : Nat) (w : World) (e : Ending) (w' : World) : Prop := ∃ r : Int, e = .returned (.int .i64 r) ∧ Dr S w w'
/-- A draw of a number. -/
def DrawI (S : Nat) (n : Int) (w : World) (e : Ending) (w' : World) : Prop := ∃ r : Int, e = .returned (.int .i64 r) ∧ 0 ≤ r ∧ (r = 0 ∨ r < n) ∧ Dr S w w'
end Go.Proofs.YteielmihlfakgaaDoor
/- Rows of the call's own beside a known block. -/
namespace Go.Proofs.YteielmihlfakgaaDoor
open Go Go.Proofs Go.RowKit
set_option linter.unusedVariables false
set_option linter.unusedSimpArgs false
theorem blk_ne_ownK {w : World} {O base : Nat} {cs : Array Value} {T e : TypeId} {sz : Nat} {v : Value} {n : Nat} {ds : List Value} (hK : Blk w O cs T) (h : w.ownsRow base e sz v n ds) (hT : T ≠ e) : some O ≠ v.ownBlock := by
  intro he
  rcases h.2 with ⟨rfl, _⟩ | ⟨g, cap, cur, rfl, _, hg, _⟩
  · cases he
  · injection he with he
    subst he
    have := hK.symm.trans hg
    simp at this
    exact hT this.2
theorem own_ne_ownK {w : World} {b1 b2 : Nat} {e1 e2 : TypeId} {s1 s2 : Nat} {u v : Value} {n m : Nat} {cs ds : List Value} (h1 : w.ownsRow b1 e1 s1 u n cs) (h2 : w.ownsRow b2 e2 s2 v m ds) (hT : e1 ≠ e2) : ∀ i j, u.ownBlock = some i → v.ownBlock = some j → i ≠ j := by
  intro i j hi hj hij
  subst hij
  rcases h1.2 with ⟨rfl, _⟩ | ⟨g, cap, cur, rfl, _, hg, _⟩
  · cases hi
  · cases hi
    rcases h2.2 with ⟨rfl, _⟩ | ⟨g', cap', cur', rfl, _, hg', _⟩
    · cases hj
    · cases hj
      have := hg.symm.trans hg'
      simp at this
      exact hT this.2
theorem own_setK {w : World} {O o base : Nat} {e : TypeId} {sz : Nat} {v : Value} {n : Nat} {ds : List Value} (h : w.ownsRow base e sz v n ds) (hne : some O ≠ v.ownBlock) (u : Value) : (w.setCell ⟨O, o, none⟩ u).ownsRow base e sz v n ds := by
  have hg : w.grownBy (w.setCell ⟨O, o, none⟩ u) (some O) := ⟨rfl, rfl, rfl, by simp, fun q hq hne => heap_setCell_other w ⟨O, o, none⟩ q u (fun e => hne (by simp [e]))⟩
  refine h.kept hg ?_
  cases hb : v.ownBlock with
  | none => exact .inl rfl
  | some k => exact .inr (fun e => hne (by rw [hb, e]))
theorem own_grK {w w' : World} {r : Option Nat} {base : Nat} {e : TypeId} {sz : Nat} {v : Value} {n : Nat} {ds : List Value} (h : w.ownsRow base e sz v n ds) (hg : w.grownBy w' r) (hne : ∀ i j, r = some i → v.ownBlock = some j → i ≠ j) : w'.ownsRow base e sz v n ds := by
  refine h.kept hg ?_
  cases hb : v.ownBlock with
  | none => exact .inl rfl
  | some k => exact .inr (fun e => hne k k e.symm hb rfl)
end Go.Proofs.YteielmihlfakgaaDoor
/- A row of cells that was laid just now. -/
namespace Go.Proofs.YteielmihlfakgaaDoor
open Go Go.RowKit
set_option linter.unusedVariables false
set_option linter.unusedSimpArgs false
theorem alloc_row {w : World} {b : Nat} {cs : Array Value} {e : TypeId} (h : b = w.heap.size) (j : Nat) (u : Value) (hj : cs.toList[j]? = some u) : (w.alloc (.cells cs e)).cell? ((⟨b, 0, none⟩ : Addr).add j) = some u := by
  have : (⟨b, 0, none⟩ : Addr).add j = ⟨b, j, none⟩ := by unfold Addr.add; split <;> simp_all
  rw [this, cell_alloc_new _ _ _ _ _ h]; simpa using hj
end Go.Proofs.YteielmihlfakgaaDoor
