/- The rule of Region, where one operation of the region stores into a block that another one of it makes ('w0, w1 := f(g(x), h(y))' with a struct first result). -/
import Derived.Test.YtdhmngmclbaieaaRegion
namespace Go.Proofs.Ytdhmngmclbaieaa
open Go Go.RowKit
set_option linter.unusedVariables false
set_option linter.unusedSimpArgs false

/-- Nothing has turned but blocks of one type's cells, made behind w0. -/
structure Turn (w0 : World) (ty : TypeId) (w w' : World) : Prop where
  os : w'.os = w.os
  tape : w'.tape = w.tape
  output : w'.output = w.output
  size : w.heap.size ≤ w'.heap.size
  block : ∀ k, k < w.heap.size → w'.heap[k]? = w.heap[k]? ∨ (w0.heap.size ≤ k ∧ ∃ cs cs', w.heap[k]? = some (.cells cs ty (0, 0)) ∧ w'.heap[k]? = some (.cells cs' ty (0, 0)) ∧ cs'.size = cs.size)

theorem Turn.new {w0 w w' : World} {ty : TypeId} (h : New w0 w) (t : Turn w0 ty w w') : New w0 w' :=
  ⟨t.os.trans h.os, t.tape.trans h.tape, t.output.trans h.output, Nat.le_trans h.size t.size, fun k hk => by
    rcases t.block k (Nat.lt_of_lt_of_le hk h.size) with h1 | ⟨h1, _⟩
    · exact h1.trans (Below.block h k hk)
    · omega⟩

def factsP (l : List Oper) (p q size : Nat) : Bool :=
  (List.range l.length).all (fun i => match l[i]? with
    | some o => o.guard.isNone && o.after.all (fun e => !Region.binds .any e || decide (e.on < i)) &&
        (if i = p then o.dst.isNone && o.after.any (fun e => Region.binds .any e && e.on == q)
         else (match o.dst with | some d => decide (d < size) | none => false) && (List.range i).all (fun j => decide (dstOf l j ≠ dstOf l i)))
    | none => false) && decide (q < p) && decide (p < l.length)

theorem factsP_op {l : List Oper} {p q size : Nat} (h : factsP l p q size = true) {i : Nat} (hi : i < l.length) :
    ∃ o, l[i]? = some o ∧ o.guard = none ∧ (∀ e ∈ o.after, Region.binds .any e = true → e.on < i) ∧
      (i = p → o.dst = none ∧ ∃ e ∈ o.after, Region.binds .any e = true ∧ e.on = q) ∧ (i ≠ p → ∃ d, o.dst = some d ∧ d < size ∧ ∀ j, j < i → dstOf l j ≠ some d) := by
  unfold factsP at h
  simp only [Bool.and_eq_true] at h
  have h1 := List.all_eq_true.1 h.1.1 i (List.mem_range.2 hi)
  cases ho : l[i]? with
  | none => simp [ho] at h1
  | some o =>
    simp only [ho, Bool.and_eq_true] at h1
    obtain ⟨⟨hg, ha⟩, hr⟩ := h1
    refine ⟨o, rfl, by simpa using hg, fun e he hb => ?_, fun hp => ?_, fun hp => ?_⟩
    · have := Array.all_eq_true'.1 ha e he
      simpa [hb] using this
    · rw [if_pos hp] at hr
      simp only [Bool.and_eq_true] at hr
      obtain ⟨e, he, hb⟩ := Array.any_eq_true'.1 hr.2
      simp only [Bool.and_eq_true, beq_iff_eq] at hb
      exact ⟨by simpa using hr.1, e, he, hb.1, hb.2⟩
    · rw [if_neg hp] at hr
      simp only [Bool.and_eq_true] at hr
      cases hdd : o.dst with
      | none => simp [hdd] at hr
      | some d =>
        refine ⟨d, rfl, by simpa [hdd] using hr.1, fun j hj => ?_⟩
        have := List.all_eq_true.1 hr.2 j (List.mem_range.2 hj)
        simpa [dstOf, ho, hdd] using this

theorem factsP_pq {l : List Oper} {p q size : Nat} (h : factsP l p q size = true) : q < p ∧ p < l.length := by
  unfold factsP at h
  simp only [Bool.and_eq_true, decide_eq_true_eq] at h
  exact ⟨h.1.2, h.2⟩

theorem factsP_inj {l : List Oper} {p q size : Nat} (h : factsP l p q size = true) {i j d : Nat} (hi : i < l.length) (hj : j < l.length) (h1 : dstOf l i = some d) (h2 : dstOf l j = some d) : i = j := by
  have ip : ∀ k, k < l.length → dstOf l k = some d → k ≠ p := fun k hk hd e => by
    obtain ⟨o, ho, _, _, hp, _⟩ := factsP_op h hk
    have := (hp e).1
    simp [dstOf, ho, this] at hd
  rcases Nat.lt_trichotomy i j with hij | hij | hij
  · obtain ⟨o, ho, _, _, _, hq⟩ := factsP_op h hj
    obtain ⟨d', hd, _, hne⟩ := hq (ip j hj h2)
    have : d' = d := by simpa [dstOf, ho, hd] using h2
    exact absurd h1 (this ▸ hne i hij)
  · exact hij
  · obtain ⟨o, ho, _, _, _, hq⟩ := factsP_op h hi
    obtain ⟨d', hd, _, hne⟩ := hq (ip i hi h1)
    have : d' = d := by simpa [dstOf, ho, hd] using h1
    exact absurd h2 (this ▸ hne j hij)

section
variable {P : Program} {l : List Oper} {p q : Nat} {ty : TypeId} {F : Nat → Value → World → Prop} {a0 : Act} {w0 : World} {Q : Exit → Act → World → Prop}

structure PInv (l : List Oper) (p q : Nat) (F : Nat → Value → World → Prop) (a0 : Act) (w0 : World) (listed : Array Bool) (a : Act) (w : World) : Prop where
  new : New w0 w
  defers : a.defers = a0.defers
  size : a.tmps.size = a0.tmps.size
  other : ∀ t, (∀ j, j < l.length → dstOf l j = some t → listed.getD j false = false) → a.tmps[t]? = a0.tmps[t]?
  fact : ∀ j d, j < l.length → listed.getD j false = true → dstOf l j = some d → F j (a.tmps[d]?.getD undef) w
  pivot : ∀ d, listed.getD p false = true → dstOf l q = some d → listed.getD q false = true ∧ F p (a.tmps[d]?.getD undef) w

theorem PInv.set {listed : Array Bool} {a : Act} {w w' : World} {i : Nat} {o : Oper} {d : Nat} {v : Value} (hB : factsP l p q a0.tmps.size = true) (hF : ∀ i v w w', New w w' → F i v w → F i v w')
    (inv : PInv l p q F a0 w0 listed a w) (hi : i < l.length) (hip : i ≠ p) (hun : listed.getD i true = false) (hsz : listed.size = l.length) (ho : l[i]? = some o) (hd : o.dst = some d) (hw : New w w') (hf : F i v w') :
    PInv l p q F a0 w0 (listed.setIfInBounds i true) (a.put o.dst v) w' := by
  obtain ⟨o', ho', _, _, _, hq⟩ := factsP_op hB hi
  obtain rfl : o' = o := by rw [ho] at ho'; exact (Option.some.inj ho').symm
  obtain ⟨d', hd', hds, _⟩ := hq hip
  obtain rfl : d' = d := by rw [hd] at hd'; exact (Option.some.inj hd').symm
  have hdi : dstOf l i = some d' := by simp [dstOf, ho, hd]
  refine ⟨inv.new.trans hw, ?_, by rw [put_tmps_size]; exact inv.size, fun t ht => ?_, fun j e hj hl he => ?_, fun e hl he => ?_⟩
  · rw [hd]; exact inv.defers
  · have hne : o'.dst ≠ some t := fun e => by
      have := ht i hi (by rw [hdi, ← e, hd])
      simp [show i < listed.size by omega] at this
    rw [put_tmps_ne hne]
    refine inv.other t (fun j hj hjt => ?_)
    have := ht j hj hjt
    by_cases hji : i = j
    · subst hji; rw [hdi, ← hd] at hjt; exact absurd hjt hne
    · rwa [getD_set_ne false hji] at this
  · by_cases hji : i = j
    · subst hji
      obtain rfl : d' = e := by rw [hdi] at he; exact Option.some.inj he
      rw [hd]
      have : (a.put (some d') v).tmps[d']?.getD undef = v := by
        simp [Act.put, show d' < a.tmps.size by rw [inv.size]; exact hds]
      rw [this]; exact hf
    · rw [getD_set_ne false hji] at hl
      have hne : o'.dst ≠ some e := fun h => hji (factsP_inj hB hi hj (by rw [hdi, ← h, hd]) he)
      rw [put_tmps_ne hne]
      exact hF _ _ _ _ hw (inv.fact j e hj hl he)
  · have hql := factsP_pq hB
    rw [getD_set_ne false hip] at hl
    obtain ⟨h1, h2⟩ := inv.pivot e hl he
    have hiq : i ≠ q := fun h => by subst h; rw [getD_in' (by omega), hun] at h1; cases h1
    refine ⟨by rw [getD_set_ne false hiq]; exact h1, ?_⟩
    have hne : o'.dst ≠ some e := fun h => hiq (factsP_inj hB hi (by omega) (by rw [hdi, ← h, hd]) he)
    rw [put_tmps_ne hne]
    exact hF _ _ _ _ hw h2

theorem wp_region_pivot {id : Nat} (p q : Nat) (ty : TypeId) (F : Nat → Value → World → Prop) (hm : P.follows .mixedOrders = true) (hB : factsP l p q a0.tmps.size = true)
    (hF : ∀ i v w w', New w w' → F i v w → F i v w') (hT : ∀ i v w w', i ≠ p → Turn w0 ty w w' → F i v w → F i v w')
    (hstep : ∀ i o, i ≠ p → l[i]? = some o → ∀ a w, New w0 w →
      (∀ t, (∀ j, j < l.length → dstOf l j ≠ some t) → a.tmps[t]?.getD undef = a0.tmps[t]?.getD undef) →
      (∀ e ∈ o.after, Region.binds .any e = true → ∀ d, dstOf l e.on = some d → F e.on (a.tmps[d]?.getD undef) w) →
      o.wp P a w (fun a' w' => New w w' ∧ ∃ v, a' = a.put o.dst v ∧ F i v w') Q)
    (hpiv : ∀ o, l[p]? = some o → ∀ a w, New w0 w →
      (∀ t, (∀ j, j < l.length → dstOf l j ≠ some t) → a.tmps[t]?.getD undef = a0.tmps[t]?.getD undef) →
      (∀ e ∈ o.after, Region.binds .any e = true → ∀ d, dstOf l e.on = some d → F e.on (a.tmps[d]?.getD undef) w) →
      o.wp P a w (fun a' w' => Turn w0 ty w w' ∧ a' = a ∧ ∀ d, dstOf l q = some d → F p (a.tmps[d]?.getD undef) w') Q)
    (hend : ∀ a w, New w0 w → a.defers = a0.defers → a.tmps.size = a0.tmps.size → (∀ t, (∀ j, j < l.length → dstOf l j ≠ some t) → a.tmps[t]? = a0.tmps[t]?) →
      (∀ j d, j < l.length → dstOf l j = some d → F j (a.tmps[d]?.getD undef) w) → (∀ d, dstOf l q = some d → F p (a.tmps[d]?.getD undef) w) → Q .normal a w) :
    (Code.region id l.toArray true).wp P Q a0 w0 := by
  obtain ⟨hqp, hpl⟩ := factsP_pq hB
  refine wp_region_any hm ?_
  have key : ∀ f listed a w, HeadInv .any l.toArray l.length listed → (List.range l.length).countP (fun i => listed.getD i true == false) = f → PInv l p q F a0 w0 listed a w → wpAny P .any l.toArray Q f listed a w := by
    intro f
    induction f with
    | zero =>
      intro listed a w hh hc inv
      have hsz : listed.size = l.length := by rw [hh.size]; simp
      have hall : ∀ i, i < l.length → listed.getD i true = true := fun i hi => by
        have := List.countP_eq_zero.1 hc i (List.mem_range.2 hi)
        simpa using this
      have hall' : ∀ i, i < l.length → listed.getD i false = true := fun i hi => by rw [getD_in' (by omega)]; exact hall i hi
      refine ⟨?_, hend a w inv.new inv.defers inv.size (fun t ht => inv.other t (fun j hj hjt => absurd hjt (ht j hj))) (fun j d hj hd => inv.fact j d hj (hall' j hj) hd) (fun d hd => (inv.pivot d (hall' p hpl) hd).2)⟩
      cases hr : Region.ready .any l.toArray listed with
      | nil => rfl
      | cons x xs =>
        have hx : x ∈ Region.ready .any l.toArray listed := by rw [hr]; simp
        obtain ⟨h1, ox, hox, _⟩ := mem_ready.1 hx
        have hxl : x < l.length := by have := (Array.getElem?_eq_some_iff.1 hox).1; simpa using this
        rw [hall x hxl] at h1; cases h1
    | succ f ih =>
      intro listed a w hh hc inv
      have hsz : listed.size = l.length := by rw [hh.size]; simp
      have hex : ∃ i, i < l.length ∧ listed.getD i true = false := by
        have hpos : 0 < (List.range l.length).countP (fun i => listed.getD i true == false) := by omega
        obtain ⟨i, hi, hp⟩ := List.countP_pos_iff.1 hpos
        exact ⟨i, List.mem_range.1 hi, by simpa using hp⟩
      obtain ⟨i0, hi0, hu0⟩ := hex
      obtain ⟨i, hin, ⟨hiu, hin'⟩, hmin⟩ := least (p := fun i => listed.getD i true = false ∧ i < l.length) i0 ⟨hu0, hi0⟩
      have hready : i ∈ Region.ready .any l.toArray listed := by
        obtain ⟨o, ho, _, hlow, _, _⟩ := factsP_op hB hin'
        refine mem_ready.2 ⟨hiu, o, by simpa using ho, fun e he hb => ?_⟩
        have hlt := hlow e he hb
        have := hmin e.on hlt
        have h2 : listed.getD e.on true = true := by
          cases h : listed.getD e.on true with
          | true => rfl
          | false => exact absurd ⟨h, by omega⟩ this
        rw [getD_in' (by omega)]; exact h2
      refine ⟨(fun h => by rw [h] at hready; cases hready), fun j hj => ?_⟩
      obtain ⟨hju, oj, hoj, hall⟩ := mem_ready.1 hj
      have hjn : j < l.length := by have := (Array.getElem?_eq_some_iff.1 hoj).1; simpa using this
      obtain ⟨o, ho, hg, hlow, hP, hN⟩ := factsP_op hB hjn
      obtain rfl : oj = o := by have : l[j]? = some oj := by simpa using hoj
                                rw [this] at ho; exact Option.some.inj ho
      have hcount : (List.range l.length).countP (fun i => (listed.setIfInBounds j true).getD i true == false) = f := by
        have := count_set (fun i => listed.getD i true == false) (fun i => (listed.setIfInBounds j true).getD i true == false) j (by simp [hju]) (by simp [show j < listed.size by omega]) (fun k hk => by
          simp only [getD_set_ne true (Ne.symm hk)]) l.length hjn
        omega
      have hold : ∀ t, (∀ j, j < l.length → dstOf l j ≠ some t) → a.tmps[t]?.getD undef = a0.tmps[t]?.getD undef := fun t ht => by
        rw [inv.other t (fun k hk hkt => absurd hkt (ht k hk))]
      have hdep : ∀ e ∈ oj.after, Region.binds .any e = true → ∀ d, dstOf l e.on = some d → F e.on (a.tmps[d]?.getD undef) w := fun e he hb d hd =>
        inv.fact e.on d (by have := hlow e he hb; omega) (hall e he hb) hd
      unfold wpOp
      simp only [hoj]
      rw [if_pos (by simp [Region.wanted, hg])]
      by_cases hjp : j = p
      · subst hjp
        obtain ⟨hdn, e0, he0, hb0, hon⟩ := hP rfl
        refine .inl (Oper.wp_mono (fun a' w' hk => ?_) (hpiv oj ho a w inv.new hold hdep))
        obtain ⟨hw, rfl, hf⟩ := hk
        have hdj : dstOf l j = none := by simp [dstOf, ho, hdn]
        refine ih _ _ _ (hh.set hj hjn) hcount ⟨hw.new inv.new, inv.defers, inv.size, fun t ht => inv.other t (fun k hk hkt => ?_), fun k e hk hl he => ?_, fun e hl he => ⟨?_, hf e he⟩⟩
        · have := ht k hk hkt
          by_cases hkj : j = k
          · subst hkj; rw [hdj] at hkt; cases hkt
          · rwa [getD_set_ne false hkj] at this
        · have hkj : j ≠ k := fun h => by subst h; rw [hdj] at he; cases he
          rw [getD_set_ne false hkj] at hl
          exact hT _ _ _ _ (Ne.symm hkj) hw (inv.fact k e hk hl he)
        · rw [getD_set_ne false (by omega), ← hon]
          exact hall e0 he0 hb0
      · obtain ⟨d, hd, hds, _⟩ := hN hjp
        refine .inl (Oper.wp_mono (fun a' w' hk => ?_) (hstep j oj hjp ho a w inv.new hold hdep))
        obtain ⟨hw, v, rfl, hf⟩ := hk
        exact ih _ _ _ (hh.set hj hjn) hcount (inv.set hB hF hjn hjp hju hsz ho hd hw hf)
  have h0 := key l.length (Array.replicate l.toArray.size false) a0 { w0 with drawn := w0.drawn + 1 }
    ⟨by simp, fun j oj _ hl => (by rw [getD_replicate_false] at hl; cases hl), fun t _ ht => getD_in (by simpa using ht) (getD_replicate_false _ _)⟩
    (by
      have : ∀ i ∈ List.range l.length, ((fun i => (Array.replicate l.toArray.size false).getD i true == false) i) = true := fun i hi => by
        have := List.mem_range.1 hi
        have h2 : i < l.toArray.size := by simpa using this
        have h3 := getD_in (listed := Array.replicate l.toArray.size false) (i := i) (by simpa using h2) (getD_replicate_false _ _)
        show ((Array.replicate l.toArray.size false).getD i true == false) = true
        rw [h3]; rfl
      rw [List.countP_eq_length.2 this]; simp)
    ⟨(New.refl w0).drew, rfl, rfl, fun _ _ => rfl, fun j d hj hl => (by rw [getD_replicate_false] at hl; cases hl), fun d hl => (by rw [getD_replicate_false] at hl; cases hl)⟩
  simpa using h0

def TStable (w0 : World) (ty : TypeId) (F : Fact) : Prop := ∀ v w w', Turn w0 ty w w' → F v w → F v w'
def TStableAll (w0 : World) (ty : TypeId) (p : Nat) : Nat → List Fact → Prop
  | _, [] => True
  | k, F :: Fs => (k ≠ p → TStable w0 ty F) ∧ TStableAll w0 ty p (k + 1) Fs
/-- The storing operation: it turns the cells of the block that operation q has made. -/
def PStep (P : Program) (l : List Oper) (q : Nat) (ty : TypeId) (Fs : List Fact) (a0 : Act) (w0 : World) (Q : Exit → Act → World → Prop) (o : Oper) (F : Fact) : Prop :=
  ∀ a w, New w0 w → Old l l.length a0 a → Kept l Fs o a w → o.wp P a w (fun a' w' => Turn w0 ty w w' ∧ a' = a ∧ ∀ d, dstOf l q = some d → F (a.tmps[d]?.getD undef) w') Q
def StepAllP (P : Program) (l : List Oper) (p q : Nat) (ty : TypeId) (Fs : List Fact) (a0 : Act) (w0 : World) (Q : Exit → Act → World → Prop) : Nat → List Oper → List Fact → Prop
  | k, o :: os, F :: Rs => (if k = p then PStep P l q ty Fs a0 w0 Q o F else FStep P l l.length Fs a0 w0 Q o F) ∧ StepAllP P l p q ty Fs a0 w0 Q (k + 1) os Rs
  | _, [], [] => True
  | _, _, _ => False

theorem TStableAll.get {p : Nat} : ∀ (Fs : List Fact) (k : Nat), TStableAll w0 ty p k Fs → ∀ i, k + i ≠ p → TStable w0 ty (Fs.getD i fun _ _ => True)
  | [], _, _, i, _ => by intro v w w' _ _; simp
  | F :: Fs, k, h, 0, hi => by simpa using h.1 (by omega)
  | F :: Fs, k, h, i + 1, hi => by simpa using TStableAll.get Fs (k + 1) h.2 i (by omega)

theorem StepAllP.get {Fs : List Fact} : ∀ (os : List Oper) (Rs : List Fact) (k : Nat), StepAllP P l p q ty Fs a0 w0 Q k os Rs → os.length = Rs.length ∧ ∀ i o, os[i]? = some o →
    (if k + i = p then PStep P l q ty Fs a0 w0 Q o (Rs.getD i fun _ _ => True) else FStep P l l.length Fs a0 w0 Q o (Rs.getD i fun _ _ => True))
  | [], [], k, _ => ⟨rfl, fun i o h => by simp at h⟩
  | o :: os, F :: Rs, k, h => by
    obtain ⟨h1, h2⟩ := StepAllP.get os Rs (k + 1) h.2
    refine ⟨by simp [h1], fun i o' ho => ?_⟩
    cases i with
    | zero => have : o = o' := by simpa using ho
              subst this; simpa using h.1
    | succ i =>
      have := h2 i o' (by simpa using ho)
      rw [show k + 1 + i = k + (i + 1) by omega] at this
      simpa using this
  | [], _ :: _, _, h => h.elim
  | _ :: _, [], _, h => h.elim

theorem wp_pivot {id : Nat} (p q : Nat) (ty : TypeId) (Fs : List Fact) (hm : P.follows .mixedOrders = true) (hB : factsP l p q a0.tmps.size = true) (hF : StableAll Fs) (hT : TStableAll w0 ty p 0 Fs)
    (hstep : StepAllP P l p q ty Fs a0 w0 Q 0 l Fs)
    (hend : ∀ w, New w0 w → EndAll w (fun vs => vs[p]? = vs[q]? → Q .normal (putAll a0 l vs) w) Fs []) :
    (Code.region id l.toArray true).wp P Q a0 w0 := by
  obtain ⟨h1, h2⟩ := StepAllP.get _ _ _ hstep
  obtain ⟨hqp, hpl⟩ := factsP_pq hB
  have conv1 : ∀ {o a w}, (∀ e ∈ o.after, Region.binds .any e = true → ∀ d, dstOf l e.on = some d → (Fs.getD e.on fun _ _ => True) (a.tmps[d]?.getD undef) w) → Kept l Fs o a w := fun {o a w} h j d hj hd => by
    obtain ⟨e, he, hb⟩ := Array.any_eq_true'.1 hj
    simp only [Bool.and_eq_true, beq_iff_eq] at hb
    obtain ⟨hb1, rfl⟩ := hb
    exact h e he hb1 d hd
  have conv2 : ∀ {a : Act}, (∀ t, (∀ j, j < l.length → dstOf l j ≠ some t) → a.tmps[t]?.getD undef = a0.tmps[t]?.getD undef) → Old l l.length a0 a := fun {a} h t ht => h t fun j hj => by
    have := List.all_eq_true.1 ht j (List.mem_range.2 hj)
    simpa using this
  refine wp_region_pivot p q ty (fun i => Fs.getD i fun _ _ => True) hm hB (fun i v w w' hn hf => hF.get i v w w' hn hf) (fun i v w w' hi ht hf => hT.get Fs 0 i (by omega) v w w' ht hf)
    (fun i o hi ho a w hw hold hdep => ?_) (fun o ho a w hw hold hdep => ?_) (fun a w hw hdf hsz hoth hfact hpf => ?_)
  · have := h2 i o ho
    rw [Nat.zero_add, if_neg hi] at this
    exact this a w hw (conv2 hold) (conv1 hdep)
  · have := h2 p o ho
    rw [Nat.zero_add, if_pos rfl] at this
    exact this a w hw (conv2 hold) (conv1 hdep)
  · obtain ⟨oq, hoq, _, _, _, hqd⟩ := factsP_op hB (i := q) (by omega)
    obtain ⟨dq, hdq, _, _⟩ := hqd (by omega)
    have hdq' : dstOf l q = some dq := by simp [dstOf, hoq, hdq]
    have hdp : dstOf l p = none := by
      obtain ⟨op, hop, _, _, hpd, _⟩ := factsP_op hB hpl
      simp [dstOf, hop, (hpd rfl).1]
    let vs := (List.range l.length).map fun j => a.tmps[(if j = p then dq else (dstOf l j).getD 0)]?.getD undef
    have hvs : ∀ i, i < l.length → vs[i]? = some (a.tmps[(if i = p then dq else (dstOf l i).getD 0)]?.getD undef) := fun i hi => by
      simp [vs, List.getElem?_map, List.getElem?_range hi]
    have hG := EndAll.get Fs [] vs (hend w hw) (by simp [vs, h1]) (fun i v hv => by
      have hi : i < l.length := by have := (List.getElem?_eq_some_iff.1 hv).1; simpa [vs] using this
      rw [hvs i hi] at hv
      obtain rfl := Option.some.inj hv
      by_cases hip : i = p
      · subst hip
        simp only [if_true]
        exact hpf dq hdq'
      · rw [if_neg hip]
        obtain ⟨o, ho, _, _, _, hN⟩ := factsP_op hB hi
        obtain ⟨d, hd, _, _⟩ := hN hip
        have hdi : dstOf l i = some d := by simp [dstOf, ho, hd]
        rw [hdi]
        exact hfact i d hi hdi)
    simp only [List.nil_append] at hG
    have hG' := hG (by rw [hvs p hpl, hvs q (by omega), if_pos rfl, if_neg (by omega), hdq']; rfl)
    have ea : putAll a0 l vs = a := by
      have ed := putAll_defers l vs a0
      have et : (putAll a0 l vs).tmps = a.tmps := by
        apply Array.ext_getElem?
        intro t
        by_cases ht : ∃ j, j < l.length ∧ dstOf l j = some t
        · obtain ⟨j, hj, hjt⟩ := ht
          have hjp : j ≠ p := fun h => by subst h; rw [hdp] at hjt; cases hjt
          obtain ⟨o, ho, _, _, _, hN⟩ := factsP_op hB hj
          obtain ⟨d, hd, hds, _⟩ := hN hjp
          have hdt : d = t := by simpa [dstOf, ho, hd] using hjt
          subst hdt
          rw [putAll_at _ _ _ j d (a.tmps[d]?.getD undef) hjt (by rw [hvs j hj, if_neg hjp, hjt]; rfl) hds (fun k hk h => by
            have hkl : k < l.length := by
              rcases Nat.lt_or_ge k l.length with h' | h'
              · exact h'
              · simp [dstOf, List.getElem?_eq_none h'] at h
            exact hk (factsP_inj hB hkl hj h hjt))]
          have : d < a.tmps.size := by rw [hsz]; exact hds
          simp [this]
        · have hnone : ∀ j, j < l.length → dstOf l j ≠ some t := fun j hj h => ht ⟨j, hj, h⟩
          rw [putAll_other _ _ _ t (fun o ho h => by
            obtain ⟨k, hk⟩ := List.getElem?_of_mem ho
            exact hnone k (List.getElem?_eq_some_iff.1 hk).1 (by simp [dstOf, hk, h]))]
          exact (hoth t hnone).symm
      cases hq : putAll a0 l vs with
      | mk tm df =>
        rw [hq] at ed et
        simp only at ed et
        rw [ed, et, ← hdf]
    rw [ea] at hG'
    exact hG'

theorem tstable_eq (w0 : World) (ty : TypeId) (x : Value) : TStable w0 ty (fun v _ => v = x) := fun _ _ _ _ h => h
/-- A pointer to a block that the region makes, whose cells may still turn. -/
def BoxPtr (w0 : World) (n : Nat) (ty : TypeId) : Fact := fun v w => ∃ b, v = .pointer (some ⟨b, 0, none⟩) ∧ w0.heap.size ≤ b ∧ ∃ cs, cs.size = n ∧ w.heap[b]? = some (.cells cs ty (0, 0))
theorem heap_lt {w : World} {b : Nat} {o : Obj} (h : w.heap[b]? = some o) : b < w.heap.size := (Array.getElem?_eq_some_iff.1 h).1
theorem stable_box (w0 : World) (n : Nat) (ty : TypeId) : Stable (BoxPtr w0 n ty) := fun v w w' hn ⟨b, h1, h2, cs, h3, h4⟩ => ⟨b, h1, h2, cs, h3, (Below.block hn b (heap_lt h4)).trans h4⟩
theorem tstable_box (w0 : World) (n : Nat) (ty : TypeId) : TStable w0 ty (BoxPtr w0 n ty) := fun v w w' ht ⟨b, h1, h2, cs, h3, h4⟩ => by
  rcases ht.block b (heap_lt h4) with h | ⟨_, cs0, cs', h5, h6, h7⟩
  · exact ⟨b, h1, h2, cs, h3, h.trans h4⟩
  · rw [h4] at h5
    cases h5
    exact ⟨b, h1, h2, cs', by omega, h6⟩

theorem array2 {cs : Array Value} (h : cs.size = 2) : ∃ a b, cs = #[a, b] := by
  obtain ⟨l⟩ := cs
  match l, h with
  | [a, b], _ => exact ⟨a, b, rfl⟩
theorem box2 {w : World} {b : Nat} {c0 c1 : Value} {ty : TypeId} (h : w.heap[b]? = some (.cells #[c0, c1] ty (0, 0))) :
    w.cell? ⟨b, 0, none⟩ = some c0 ∧ w.cell? ⟨b, 1, none⟩ = some c1 ∧ w.frozen? ⟨b, 0, none⟩ = false ∧ w.frozen? ⟨b, 1, none⟩ = false := by
  simp [World.cell?, World.frozen?, h]
theorem box2_set {w : World} {b : Nat} {c0 c1 : Value} {ty : TypeId} (h : w.heap[b]? = some (.cells #[c0, c1] ty (0, 0))) (u v : Value) :
    ((w.setCell ⟨b, 0, none⟩ u).setCell ⟨b, 1, none⟩ v).heap[b]? = some (.cells #[u, v] ty (0, 0)) := by
  simp [World.setCell, Array.getElem?_modify, h]
theorem turn_box2 {w0 w : World} {b : Nat} {c0 c1 : Value} {ty : TypeId} (hb : w0.heap.size ≤ b) (h : w.heap[b]? = some (.cells #[c0, c1] ty (0, 0))) (u v : Value) :
    Turn w0 ty w ((w.setCell ⟨b, 0, none⟩ u).setCell ⟨b, 1, none⟩ v) :=
  ⟨rfl, rfl, rfl, by simp, fun k hk => by
    by_cases hkb : k = b
    · subst hkb
      exact .inr ⟨hb, _, _, h, box2_set h u v, rfl⟩
    · exact .inl ((Below.heap_setCell _ _ _ _ hkb).trans (Below.heap_setCell _ _ _ _ hkb))⟩
end
end Go.Proofs.Ytdhmngmclbaieaa
