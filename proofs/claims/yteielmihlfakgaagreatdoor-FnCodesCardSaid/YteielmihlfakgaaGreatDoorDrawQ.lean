/- Worlds that differ by draws, new blocks, and late stores into some blocks known ahead. -/
import Derived.Test.YteielmihlfakgaaGreatDoorVA
import Derived.Test.YteielmihlfakgaaGreatDoorRegionQ
namespace Go.Proofs.YteielmihlfakgaaGreatDoor
open Go Go.RowKit
set_option linter.unusedVariables false
set_option linter.unusedSimpArgs false
/-- Blocks that are stored into late: the block, what it holds then, its type. -/
abbrev Late := List (Nat × Array Value × TypeId)
structure Dq (S : Nat) (L : Late) (w w' : World) : Prop where
  os : w'.os = w.os
  tape : w'.tape = w.tape
  output : w'.output = w.output
  size : w.heap.size ≤ w'.heap.size
  other : ∀ k, k < w.heap.size → k ≠ S → (∀ x ∈ L, k ≠ x.1) → w'.heap[k]? = w.heap[k]?
  late : ∀ x ∈ L, w'.heap[x.1]? = w.heap[x.1]? ∨ Blk w' x.1 x.2.1 x.2.2
  src : ∀ {B}, (∀ x ∈ L, B ≤ x.1) → Src B S w → Src B S w'
theorem Dq.refl (S : Nat) (L : Late) (w : World) : Dq S L w w := ⟨rfl, rfl, rfl, Nat.le_refl _, fun _ _ _ _ => rfl, fun _ _ => .inl rfl, fun _ s => s⟩
theorem Dq.trans {S : Nat} {L : Late} {a b c : World} (h : Dq S L a b) (k : Dq S L b c) : Dq S L a c := by
  refine ⟨k.os.trans h.os, k.tape.trans h.tape, k.output.trans h.output, Nat.le_trans h.size k.size, fun i hi hn hL => (k.other i (Nat.lt_of_lt_of_le hi h.size) hn hL).trans (h.other i hi hn hL), fun x hx => ?_, fun hB s => k.src hB (h.src hB s)⟩
  rcases k.late x hx with h1 | h1
  · rcases h.late x hx with h2 | h2
    · exact .inl (h1.trans h2)
    · exact .inr (h1.trans h2)
  · exact .inr h1
def LateOK (S : Nat) (w : World) : Late → Prop
  | [] => True
  | x :: r => (x.1 ≠ S ∧ x.1 < w.heap.size) ∧ LateOK S w r
theorem LateOK.get {S : Nat} {w : World} : ∀ {L : Late}, LateOK S w L → ∀ x ∈ L, x.1 ≠ S ∧ x.1 < w.heap.size
  | y :: r, h, x, hx => by
    rcases List.mem_cons.1 hx with rfl | hx
    · exact h.1
    · exact LateOK.get h.2 x hx
theorem LateOK.mono {S : Nat} {w w' : World} : ∀ {L : Late}, LateOK S w L → w.heap.size ≤ w'.heap.size → LateOK S w' L
  | [], _, _ => trivial
  | y :: r, h, hs => ⟨⟨h.1.1, Nat.lt_of_lt_of_le h.1.2 hs⟩, LateOK.mono h.2 hs⟩
theorem Dq.of_dr {S : Nat} {L : Late} {w w' : World} (h : Dr S w w') (hL : LateOK S w L) : Dq S L w w' :=
  ⟨h.o.os, h.o.tape, h.o.output, h.size, fun k hk hn _ => h.o.other k hk hn, fun x hx => .inl (h.o.other x.1 (hL.get x hx).2 (hL.get x hx).1), fun _ s => h.src s⟩
theorem Dq.drew {S : Nat} {L : Late} {a w : World} (h : Dq S L a w) : Dq S L a w.drew := h.trans ⟨rfl, rfl, rfl, Nat.le_refl _, fun _ _ _ _ => rfl, fun _ _ => .inl rfl, fun _ ⟨cv, bs, p, sd, s⟩ => ⟨cv, bs, p, sd, s.new (New.refl w).drew⟩⟩
theorem Dq.ord (S : Nat) (L : Late) : RQ.Ord (Dq S L) := ⟨Dq.refl S L, Dq.trans, fun w => (Dq.refl S L w).drew⟩
theorem Dq.undraw {S : Nat} {L : Late} {w w' : World} (h : Dq S L w.drew w') : Dq S L w w' := (Dq.refl S L w).drew.trans h
theorem Dq.undrawN {S : Nat} {L : Late} {w w' : World} {n : Nat} (h : Dq S L (w.drewN n) w') : Dq S L w w' :=
  Dq.trans (b := w.drewN n) ⟨rfl, rfl, rfl, Nat.le_refl _, fun _ _ _ _ => rfl, fun _ _ => .inl rfl, fun _ ⟨cv, bs, p, sd, s⟩ => ⟨cv, bs, p, sd, s.new ((New.refl w).drewN n)⟩⟩ h
def NotIn (b : Nat) : Late → Prop
  | [] => True
  | x :: r => b ≠ x.1 ∧ NotIn b r
theorem NotIn.get {b : Nat} : ∀ {L : Late}, NotIn b L → ∀ x ∈ L, b ≠ x.1
  | y :: r, h, x, hx => by
    rcases List.mem_cons.1 hx with rfl | hx
    · exact h.1
    · exact NotIn.get h.2 x hx
theorem Blk.dq {S : Nat} {L : Late} {w w' : World} {b : Nat} {cs : Array Value} {T : TypeId} (h : Blk w b cs T) (hd : Dq S L w w') (hn : b ≠ S) (hL : NotIn b L) : Blk w' b cs T := (hd.other b h.lt hn hL.get).trans h
/-- A block that is stored into late holds what it held, or what it is to hold. -/
theorem Blk.late {S : Nat} {L : Late} {w w' : World} {b : Nat} {cs F : Array Value} {T : TypeId} (h : Blk w b cs T) (hd : Dq S L w w') (hL : (b, F, T) ∈ L) : Blk w' b cs T ∨ Blk w' b F T := by
  rcases hd.late _ hL with h1 | h1
  · exact .inl (h1.trans h)
  · exact .inr h1
theorem Blk.kept {S : Nat} {L : Late} {w w' : World} {b : Nat} {F : Array Value} {T : TypeId} (h : Blk w b F T) (hd : Dq S L w w') (hL : (b, F, T) ∈ L) : Blk w' b F T := by
  rcases Blk.late h hd hL with h | h <;> exact h
theorem blk_cast {w : World} {b : Nat} {cs F : Array Value} {T : TypeId} (h : Blk w b cs T) (e : cs = F) : Blk w b F T := e ▸ h
/-- Only block g has turned. -/
structure Same1 (g : Nat) (w w' : World) : Prop where
  os : w'.os = w.os
  tape : w'.tape = w.tape
  output : w'.output = w.output
  size : w.heap.size = w'.heap.size
  other : ∀ k, k ≠ g → w'.heap[k]? = w.heap[k]?
theorem Same1.refl (g : Nat) (w : World) : Same1 g w w := ⟨rfl, rfl, rfl, rfl, fun _ _ => rfl⟩
theorem Same1.set {g : Nat} {w w' : World} (h : Same1 g w w') (o : Nat) (u : Value) : Same1 g w (w'.setCell ⟨g, o, none⟩ u) :=
  ⟨h.os, h.tape, h.output, by rw [h.size]; simp [World.setCell], fun k hk => (Below.heap_setCell _ _ _ _ hk).trans (h.other k hk)⟩
theorem Src.same1 {g B S : Nat} {w w' : World} (s : Src B S w) (h : Same1 g w w') (hg : g ≠ S) (hB : B ≤ g) : Src B S w' := by
  obtain ⟨cv, bs, p, sd, s⟩ := s
  exact ⟨cv, bs, p, sd, s.moved (fun k hk => h.other k (by omega)) (h.other S (Ne.symm hg))⟩
/-- A block of the call's own, laid after the code, is no block of the source's. -/
theorem Dq.stored {S : Nat} {L : Late} {w w' : World} {b : Nat} {F : Array Value} {T : TypeId} (hs : Same1 b w w') (hb : Blk w' b F T) (hL : (b, F, T) ∈ L) (hu : ∀ x ∈ L, x.1 = b → x = (b, F, T)) (hne : b ≠ S) : Dq S L w w' := by
  refine ⟨hs.os, hs.tape, hs.output, Nat.le_of_eq hs.size, fun k hk hn hk2 => hs.other k (hk2 _ hL), fun x hx => ?_, fun hB s => s.same1 hs hne (hB _ hL)⟩
  by_cases hxb : x.1 = b
  · have := hu x hx hxb
    subst this
    exact .inr hb
  · exact .inl (hs.other _ hxb)
theorem Dq.stored2 {S : Nat} {L : Late} {w w' : World} {b : Nat} {F : Array Value} {T : TypeId} (hs : Same1 b w w') (hb : Blk w' b F T) (hL : (b, F, T) ∈ L) (hu : ∀ x ∈ L, x.1 = b → x = (b, F, T)) (hne : b ≠ S) : Dq S L w w' ∧ Blk w' b F T := ⟨Dq.stored hs hb hL hu hne, hb⟩
theorem Dq.new {S : Nat} {L : Late} {w0 w w' : World} (hn : New w0 w) (h : Dq S L w w') (hS : w0.heap.size ≤ S) (hL : ∀ x ∈ L, w0.heap.size ≤ x.1) : New w0 w' :=
  ⟨h.os.trans hn.os, h.tape.trans hn.tape, h.output.trans hn.output, Nat.le_trans hn.size h.size, fun k hk => (h.other k (Nat.lt_of_lt_of_le hk hn.size) (by omega) (fun x hx => by have := hL x hx; omega)).trans (hn.block k hk)⟩
theorem Dq.dr {S : Nat} {L : Late} {w0 w w' : World} (hn : Dr S w0 w) (h : Dq S L w w') (hL : ∀ x ∈ L, w0.heap.size ≤ x.1) : Dr S w0 w' :=
  ⟨⟨h.os.trans hn.o.os, h.tape.trans hn.o.tape, h.output.trans hn.o.output, Nat.le_trans hn.size h.size, fun k hk hne => (h.other k (Nat.lt_of_lt_of_le hk hn.size) hne (fun x hx => by have := hL x hx; omega)).trans (hn.o.other k hk hne)⟩, fun {B} s => h.src (fun x hx => by have := hL x hx; have := s.le; have := s.lt; omega) (hn.src s)⟩
/-- A slice that is laid in the region itself lies above the blocks stored into. -/
theorem RdA.dq_of {S : Nat} {L : Late} {w w' : World} {v : Value} {xs : List Int} (h : RdA S w v xs) (hb : Dq S L w w') (hL : ∀ x ∈ L, ∀ b n c, v = .slice (some ⟨b, 0, none⟩) n c → b ≠ x.1) : RdA S w' v xs := by
  obtain ⟨b, n, c, rfl, hS, a, cap, e, hn, h0, hc⟩ := h
  refine ⟨b, n, c, rfl, hS, a, cap, e, hn, h0, fun j u hu => ?_⟩
  obtain ⟨b', o, ha, hlt, hcell⟩ := hc j u hu
  refine ⟨b', o, ha, Nat.lt_of_lt_of_le hlt hb.size, ?_⟩
  subst ha
  cases e
  exact (World.cell?_of_block (hb.other _ hlt (by show b ≠ S; omega) (fun x hx => hL x hx _ _ _ rfl))).trans hcell
/-- .. told with its fence: above block M. -/
def RdM (S M : Nat) (w : World) (v : Value) (xs : List Int) : Prop := RdA S w v xs ∧ ∀ b n c, v = .slice (some ⟨b, 0, none⟩) n c → M ≤ b
theorem RdM.dq {S M : Nat} {L : Late} {w w' : World} {v : Value} {xs : List Int} (h : RdM S M w v xs) (hb : Dq S L w w') (hL : ∀ x ∈ L, x.1 < M) : RdM S M w' v xs :=
  ⟨h.1.dq_of hb (fun x hx b n c e => by have := h.2 b n c e; have := hL x hx; omega), h.2⟩
theorem rdM_lit {S M : Nat} {w : World} (xs : List Int) {T : TypeId} (hS : S < w.heap.size) (hM : M ≤ w.heap.size) (hx : xs.length ≤ 1048576 := by simp) : RdM S M (w.alloc (.cells (xs.map (Value.int .i64)).toArray T)) (.slice (some ⟨w.heap.size, 0, none⟩) xs.length xs.length) xs :=
  ⟨rdA_lit xs hS hx, fun b n c e => by cases e; exact hM⟩
end Go.Proofs.YteielmihlfakgaaGreatDoor
