/- As RegionG, for a region whose callees draw numbers from one source (block S): the worlds' order is Dr S. -/
import Derived.StillTail
import Derived.Test.YteielmihlfakgaaGreatDoorVA
namespace Go.Proofs.YteielmihlfakgaaGreatDoor
open Go Go.RowKit
set_option linter.unusedVariables false
set_option linter.unusedSimpArgs false
namespace RD

def dstOf (l : List Oper) (i : Nat) : Option Nat := (l[i]?).bind (·.dst)

def factsB (l : List Oper) (n size : Nat) : Bool :=
  decide (n ≤ l.length) &&
  (List.range n).all (fun i => match l[i]? with
    | some o => (match o.dst with | some d => decide (d < size) | none => false) && o.after.all (fun e => !Region.binds .any e || decide (e.on < i)) && (List.range i).all (fun j => decide (dstOf l j ≠ dstOf l i))
    | none => false) &&
  (decide (n = l.length) || (decide (n < l.length) && Region.sinkB .any l.toArray n && Region.chainB .any l.toArray n && Region.seqB .any l.toArray (l.length - n) n ((List.range l.length).map fun i => decide (i < n)).toArray))

theorem factsB_op {l : List Oper} {n size : Nat} (h : factsB l n size = true) {i : Nat} (hi : i < n) :
    ∃ o d, l[i]? = some o ∧ True ∧ o.dst = some d ∧ d < size ∧ (∀ e ∈ o.after, Region.binds .any e = true → e.on < i) ∧ ∀ j, j < i → dstOf l j ≠ some d := by
  unfold factsB at h
  simp only [Bool.and_eq_true] at h
  have h1 := List.all_eq_true.1 h.1.2 i (List.mem_range.2 hi)
  cases ho : l[i]? with
  | none => simp [ho] at h1
  | some o =>
    simp only [ho, Bool.and_eq_true] at h1
    obtain ⟨⟨hd, ha⟩, hj⟩ := h1
    cases hdd : o.dst with
    | none => simp [hdd] at hd
    | some d =>
      refine ⟨o, d, rfl, trivial, hdd, by simpa [hdd] using hd, fun e he hb => ?_, fun j hj' => ?_⟩
      · have := Array.all_eq_true'.1 ha e he
        simpa [hb] using this
      · have := List.all_eq_true.1 hj j (List.mem_range.2 hj')
        simpa [dstOf, ho, hdd] using this

theorem factsB_le {l : List Oper} {n size : Nat} (h : factsB l n size = true) : n ≤ l.length := by
  unfold factsB at h
  simp only [Bool.and_eq_true, decide_eq_true_eq] at h
  exact h.1.1

theorem factsB_inj {l : List Oper} {n size : Nat} (h : factsB l n size = true) {i j d : Nat} (hi : i < n) (hj : j < n) (h1 : dstOf l i = some d) (h2 : dstOf l j = some d) : i = j := by
  rcases Nat.lt_trichotomy i j with hij | hij | hij
  · obtain ⟨o, d', ho, _, hd, _, _, hne⟩ := factsB_op h hj
    have : d' = d := by simpa [dstOf, ho, hd] using h2
    exact absurd h1 (this ▸ hne i hij)
  · exact hij
  · obtain ⟨o, d', ho, _, hd, _, _, hne⟩ := factsB_op h hi
    have : d' = d := by simpa [dstOf, ho, hd] using h1
    exact absurd h2 (this ▸ hne j hij)

def putAll (a : Act) : List Oper → List Value → Act
  | o :: os, v :: vs => putAll (a.put o.dst v) os vs
  | _, _ => a

theorem putAll_defers : ∀ (os : List Oper) (vs : List Value) (a : Act), (putAll a os vs).defers = a.defers
  | [], vs, a => rfl
  | o :: os, [], a => rfl
  | o :: os, v :: vs, a => by
    rw [putAll, putAll_defers os vs]
    cases o.dst <;> rfl

theorem put_tmps_ne {a : Act} {d : Option Nat} {v : Value} {t : Nat} (h : d ≠ some t) : (a.put d v).tmps[t]? = a.tmps[t]? := by
  cases d with
  | none => rfl
  | some d =>
    have : d ≠ t := fun e => h (by rw [e])
    simp [Act.put, Array.getElem?_setIfInBounds_ne this]

theorem put_tmps_size {a : Act} {d : Option Nat} {v : Value} : (a.put d v).tmps.size = a.tmps.size := by
  cases d <;> simp [Act.put]

theorem putAll_other : ∀ (os : List Oper) (vs : List Value) (a : Act) (t : Nat), (∀ o ∈ os, o.dst ≠ some t) → (putAll a os vs).tmps[t]? = a.tmps[t]?
  | [], vs, a, t, _ => rfl
  | o :: os, [], a, t, _ => rfl
  | o :: os, v :: vs, a, t, h => by
    rw [putAll, putAll_other os vs _ t (fun o' ho => h o' (by simp [ho])), put_tmps_ne (h o (by simp))]

theorem putAll_at : ∀ (os : List Oper) (vs : List Value) (a : Act) (j t : Nat) (u : Value), dstOf os j = some t → vs[j]? = some u → t < a.tmps.size → (∀ k, k ≠ j → dstOf os k ≠ some t) →
    (putAll a os vs).tmps[t]? = some u
  | [], vs, a, j, t, u, hd, _, _, _ => by simp [dstOf] at hd
  | o :: os, [], a, j, t, u, _, hv, _, _ => by simp at hv
  | o :: os, v :: vs, a, 0, t, u, hd, hv, ht, hne => by
    have hd' : o.dst = some t := by simpa [dstOf] using hd
    have hv' : v = u := by simpa using hv
    rw [putAll, putAll_other os vs _ t (fun o' ho => ?_)]
    · rw [hd', hv']
      simp [Act.put, ht]
    · obtain ⟨k, hk⟩ := List.getElem?_of_mem ho
      have := hne (k + 1) (by omega)
      simpa [dstOf, hk] using this
  | o :: os, v :: vs, a, j + 1, t, u, hd, hv, ht, hne => by
    rw [putAll]
    refine putAll_at os vs _ j t u (by simpa [dstOf] using hd) (by simpa using hv) (by rw [put_tmps_size]; exact ht) (fun k hk => ?_)
    have := hne (k + 1) (by omega)
    simpa [dstOf] using this

theorem count_set (p q : Nat → Bool) (i : Nat) (hp : p i = true) (hq : q i = false) (hpq : ∀ j, j ≠ i → p j = q j) : ∀ n, i < n → (List.range n).countP p = (List.range n).countP q + 1 := by
  intro n
  induction n with
  | zero => intro h; omega
  | succ n ih =>
    intro h
    rw [List.range_succ, List.countP_append, List.countP_append]
    by_cases hin : i < n
    · rw [ih hin]
      have : p n = q n := hpq n (by omega)
      simp [List.countP_cons, this]; omega
    · have hi : i = n := by omega
      subst hi
      have e : (List.range i).countP p = (List.range i).countP q := List.countP_congr (fun j hj => by
        rw [hpq j (by have := List.mem_range.1 hj; omega)])
      simp [List.countP_cons, hp, hq, e]

theorem least {p : Nat → Prop} : ∀ n, p n → ∃ i, i ≤ n ∧ p i ∧ ∀ j, j < i → ¬ p j := by
  intro n
  induction n using Nat.strongRecOn with
  | _ n ih =>
    intro hn
    by_cases h : ∃ j, j < n ∧ p j
    · obtain ⟨j, hj, hpj⟩ := h
      obtain ⟨i, h1, h2, h3⟩ := ih j hj hpj
      exact ⟨i, by omega, h2, h3⟩
    · exact ⟨n, Nat.le_refl _, hn, fun j hj hpj => h ⟨j, hj, hpj⟩⟩

section
variable {S : Nat} {P : Program} {l : List Oper} {n : Nat} {F : Nat → Value → World → Prop} {a0 : Act} {w0 : World} {Q : Exit → Act → World → Prop}

structure FInv (S : Nat) (l : List Oper) (n : Nat) (F : Nat → Value → World → Prop) (a0 : Act) (w0 : World) (listed : Array Bool) (a : Act) (w : World) : Prop where
  new : Dr S w0 w
  defers : a.defers = a0.defers
  size : a.tmps.size = a0.tmps.size
  other : ∀ t, (∀ j, j < n → dstOf l j = some t → listed.getD j false = false) → a.tmps[t]? = a0.tmps[t]?
  fact : ∀ j d, j < n → listed.getD j false = true → dstOf l j = some d → F j (a.tmps[d]?.getD undef) w

theorem getD_in' {listed : Array Bool} {i : Nat} (hi : i < listed.size) : listed.getD i false = listed.getD i true := by
  simp [hi]

theorem FInv.set {listed : Array Bool} {a : Act} {w w' : World} {i : Nat} {o : Oper} {d : Nat} {v : Value} (hB : factsB l n a0.tmps.size = true) (hF : ∀ i v w w', Dr S w w' → F i v w → F i v w')
    (inv : FInv S l n F a0 w0 listed a w) (hi : i < n) (hsz : listed.size = l.length) (ho : l[i]? = some o) (hd : o.dst = some d) (hw : Dr S w w') (hf : F i v w') :
    FInv S l n F a0 w0 (listed.setIfInBounds i true) (a.put o.dst v) w' := by
  have hle := factsB_le hB
  obtain ⟨o', d', ho', _, hd', hds, _, _⟩ := factsB_op hB hi
  obtain rfl : o' = o := by rw [ho] at ho'; exact (Option.some.inj ho').symm
  obtain rfl : d' = d := by rw [hd] at hd'; exact (Option.some.inj hd').symm
  have hdi : dstOf l i = some d' := by simp [dstOf, ho, hd]
  refine ⟨inv.new.trans hw, ?_, by rw [put_tmps_size]; exact inv.size, fun t ht => ?_, fun j e hj hl he => ?_⟩
  · rw [hd]; exact inv.defers
  · have hne : o'.dst ≠ some t := fun e => by
      have := ht i hi (by rw [hdi, ← e, hd])
      simp [show i < listed.size by omega] at this
    rw [put_tmps_ne hne]
    refine inv.other t (fun j hj hjt => ?_)
    have := ht j hj hjt
    by_cases hji : i = j
    · subst hji; rw [hdi, ← hd] at hjt; exact absurd hjt hne
    · rwa [getD_set_ne false hji] at this
  · by_cases hji : i = j
    · subst hji
      obtain rfl : d' = e := by rw [hdi] at he; exact Option.some.inj he
      rw [hd]
      have : (a.put (some d') v).tmps[d']?.getD undef = v := by
        simp [Act.put, show d' < a.tmps.size by rw [inv.size]; exact hds]
      rw [this]; exact hf
    · rw [getD_set_ne false hji] at hl
      have hne : o'.dst ≠ some e := fun h => hji (factsB_inj hB hi hj (by rw [hdi, ← h, hd]) he)
      rw [put_tmps_ne hne]
      exact hF _ _ _ _ hw (inv.fact j e hj hl he)

theorem wp_region_facts {id : Nat} (n : Nat) (F : Nat → Value → World → Prop) (hm : P.follows .mixedOrders = true) (hB : factsB l n a0.tmps.size = true)
    (hF : ∀ i v w w', Dr S w w' → F i v w → F i v w')
    (hstep : ∀ i o, i < n → l[i]? = some o → ∀ a w, Dr S w0 w → a.defers = a0.defers →
      (∀ t, (∀ j, j < n → dstOf l j ≠ some t) → a.tmps[t]?.getD undef = a0.tmps[t]?.getD undef) →
      (∀ e ∈ o.after, Region.binds .any e = true → ∀ d, dstOf l e.on = some d → F e.on (a.tmps[d]?.getD undef) w) →
      (Region.wanted o (yielded l.toArray a.tmps) = true ∧ o.wp P a w (fun a' w' => Dr S w w' ∧ ∃ v, a' = a.put o.dst v ∧ F i v w') Q) ∨ (Region.wanted o (yielded l.toArray a.tmps) = false ∧ F i undef w))
    (hend : ∀ vs w, vs.length = n → Dr S w0 w → (∀ i v, vs[i]? = some v → F i v w) → wpList P l.toArray Q (l.drop n) (putAll a0 (l.take n) vs) w) :
    (Code.region id l.toArray true).wp P Q a0 w0 := by
  have hle := factsB_le hB
  refine wp_region_any hm ?_
  have key : ∀ f listed a w, HeadInv .any l.toArray n listed → (List.range n).countP (fun i => listed.getD i true == false) = f → FInv S l n F a0 w0 listed a w → wpAny P .any l.toArray Q (f + (l.length - n)) listed a w := by
    intro f
    induction f with
    | zero =>
      intro listed a w hh hc inv
      have hsz : listed.size = l.length := by rw [hh.size]; simp
      have hall : ∀ i, i < n → listed.getD i true = true := fun i hi => by
        have := List.countP_eq_zero.1 hc i (List.mem_range.2 hi)
        simpa using this
      have hend' : wpList P l.toArray Q (l.drop n) a w := by
        have hvs : ((List.range n).map fun j => a.tmps[(dstOf l j).getD 0]?.getD undef).length = n := by simp
        have hf : ∀ i v, ((List.range n).map fun j => a.tmps[(dstOf l j).getD 0]?.getD undef)[i]? = some v → F i v w := by
          intro i v hv
          have hi : i < n := by have := (List.getElem?_eq_some_iff.1 hv).1; simpa using this
          obtain ⟨o, d, ho, _, hd, _, _, _⟩ := factsB_op hB hi
          have hdi : dstOf l i = some d := by simp [dstOf, ho, hd]
          have hv' : a.tmps[d]?.getD undef = v := by simpa [List.getElem?_map, List.getElem?_range hi, hdi] using hv
          rw [← hv']
          exact inv.fact i d hi (by rw [getD_in' (by omega)]; exact hall i hi) hdi
        have hX := hend _ w hvs inv.new hf
        have ea : putAll a0 (l.take n) ((List.range n).map fun j => a.tmps[(dstOf l j).getD 0]?.getD undef) = a := by
          have ed := putAll_defers (l.take n) ((List.range n).map fun j => a.tmps[(dstOf l j).getD 0]?.getD undef) a0
          have et : (putAll a0 (l.take n) ((List.range n).map fun j => a.tmps[(dstOf l j).getD 0]?.getD undef)).tmps = a.tmps := by
            apply Array.ext_getElem?
            intro t
            by_cases ht : ∃ j, j < n ∧ dstOf l j = some t
            · obtain ⟨j, hj, hjt⟩ := ht
              obtain ⟨o, d, ho, _, hd, hds, _, _⟩ := factsB_op hB hj
              have hdt : d = t := by simpa [dstOf, ho, hd] using hjt
              subst hdt
              have htk : ∀ k, dstOf (l.take n) k = if k < n then dstOf l k else none := fun k => by
                unfold dstOf; rw [List.getElem?_take]; split <;> rfl
              rw [putAll_at _ _ _ j d (a.tmps[d]?.getD undef) (by rw [htk, if_pos hj]; exact hjt) (by simp [List.getElem?_range hj, hjt]) hds (fun k hk => by
                rw [htk]; split
                · rename_i hkn; exact fun h => hk (factsB_inj hB hkn hj h hjt)
                · simp)]
              have : d < a.tmps.size := by rw [inv.size]; exact hds
              simp [this]
            · have hnone : ∀ j, j < n → dstOf l j ≠ some t := fun j hj h => ht ⟨j, hj, h⟩
              rw [putAll_other _ _ _ t (fun o ho h => by
                obtain ⟨k, hk⟩ := List.getElem?_of_mem ho
                rw [List.getElem?_take] at hk
                split at hk
                · rename_i hkn
                  exact hnone k hkn (by simp [dstOf, hk, h])
                · cases hk)]
              exact (inv.other t (fun j hj hjt => absurd hjt (hnone j hj))).symm
          cases hq : putAll a0 (l.take n) ((List.range n).map fun j => a.tmps[(dstOf l j).getD 0]?.getD undef) with
          | mk tm df =>
            rw [hq] at ed et
            simp only at ed et
            rw [ed, et, ← inv.defers]
        rw [ea] at hX
        exact hX
      rw [Nat.zero_add]
      unfold factsB at hB
      simp only [Bool.and_eq_true, Bool.or_eq_true, decide_eq_true_eq] at hB
      have hlit : listed = ((List.range l.length).map fun i => decide (i < n)).toArray := by
        apply Array.ext
        · simp [hsz]
        · intro i h1 h2
          simp only [List.size_toArray, List.length_map, List.length_range] at h2
          by_cases hi : i < n
          · have := hall i hi
            simpa [h1, hi] using this
          · have := hh.tail i (by omega) (by simpa using h2)
            simpa [h1, hi] using this
      rcases hB.2 with hn | hn
      · have hd0 : l.drop n = [] := by rw [hn]; simp
        rw [hd0] at hend'
        rw [show l.length - n = 0 by omega]
        refine ⟨?_, hend'⟩
        cases hr : Region.ready .any l.toArray listed with
        | nil => rfl
        | cons x xs =>
          have hx : x ∈ Region.ready .any l.toArray listed := by rw [hr]; simp
          obtain ⟨h1, ox, hox, _⟩ := mem_ready.1 hx
          have hxl : x < n := by have := (Array.getElem?_eq_some_iff.1 hox).1; simp at this; omega
          rw [hall x hxl] at h1; cases h1
      · have := wpAny_of_seq (P := P) (md := .any) (ops := l.toArray) (Q' := Q) (l.drop n) n listed a w (fun j => by simp [List.getElem?_drop]) (by rw [List.length_drop, hlit]; exact hn.2) hend'
        rwa [List.length_drop] at this
    | succ f ih =>
      intro listed a w hh hc inv
      have hsz : listed.size = l.length := by rw [hh.size]; simp
      rw [show f + 1 + (l.length - n) = (f + (l.length - n)) + 1 by omega]
      have hex : ∃ i, i < n ∧ listed.getD i true = false := by
        have hpos : 0 < (List.range n).countP (fun i => listed.getD i true == false) := by omega
        obtain ⟨i, hi, hp⟩ := List.countP_pos_iff.1 hpos
        exact ⟨i, List.mem_range.1 hi, by simpa using hp⟩
      obtain ⟨i0, hi0, hu0⟩ := hex
      obtain ⟨i, hin, ⟨hiu, hin'⟩, hmin⟩ := least (p := fun i => listed.getD i true = false ∧ i < n) i0 ⟨hu0, hi0⟩
      have hready : i ∈ Region.ready .any l.toArray listed := by
        obtain ⟨o, d, ho, _, _, _, hlow, _⟩ := factsB_op hB hin'
        refine mem_ready.2 ⟨hiu, o, by simpa using ho, fun e he hb => ?_⟩
        have hlt := hlow e he hb
        have := hmin e.on hlt
        have h2 : listed.getD e.on true = true := by
          cases h : listed.getD e.on true with
          | true => rfl
          | false => exact absurd ⟨h, by omega⟩ this
        rw [getD_in' (by omega)]; exact h2
      refine ⟨(fun h => by rw [h] at hready; cases hready), fun j hj => ?_⟩
      have hjn : j < n := by
        have hB' := hB
        unfold factsB at hB'
        simp only [Bool.and_eq_true, Bool.or_eq_true, decide_eq_true_eq] at hB'
        obtain ⟨_, oj, hoj, _⟩ := mem_ready.1 hj
        have hjl : j < l.length := by have := (Array.getElem?_eq_some_iff.1 hoj).1; simpa using this
        rcases hB'.2 with hn | hn
        · omega
        · rcases Nat.lt_or_ge j n with h | h
          · exact h
          · exact absurd hj (tail_waits hn.1.1.2 hn.1.2 (by simpa using hn.1.1.1) hh (n - i0) i0 rfl hi0 hu0 j h)
      obtain ⟨hju, oj, hoj, hall⟩ := mem_ready.1 hj
      obtain ⟨o, d, ho, hg, hd, hds, hlow, _⟩ := factsB_op hB hjn
      obtain rfl : oj = o := by have : l[j]? = some oj := by simpa using hoj
                                rw [this] at ho; exact Option.some.inj ho
      unfold wpOp
      simp only [hoj]
      rcases hstep j oj hjn ho a w inv.new inv.defers (fun t ht => (by rw [inv.other t (fun k hk hkt => absurd hkt (ht k hk))])) (fun e he hb d' hd' => inv.fact e.on d' (by have := hlow e he hb; omega) (hall e he hb) hd') with ⟨hwt, hs⟩ | ⟨hwt, hs⟩
      · rw [if_pos hwt]
        refine .inl (Oper.wp_mono (fun a' w' hk => ?_) hs)
        obtain ⟨hw, v, rfl, hf⟩ := hk
        refine ih _ _ _ (hh.set hj hjn) ?_ (inv.set hB hF hjn hsz ho hd hw hf)
        have := count_set (fun i => listed.getD i true == false) (fun i => (listed.setIfInBounds j true).getD i true == false) j (by simp [hju]) (by simp [show j < listed.size by omega]) (fun k hk => by
          simp only [getD_set_ne true (Ne.symm hk)]) n hjn
        omega
      · rw [if_neg (by rw [hwt]; simp)]
        refine ih _ _ _ (hh.set hj hjn) ?_ (inv.set hB hF hjn hsz ho hd (Dr.refl S _) hs)
        have := count_set (fun i => listed.getD i true == false) (fun i => (listed.setIfInBounds j true).getD i true == false) j (by simp [hju]) (by simp [show j < listed.size by omega]) (fun k hk => by
          simp only [getD_set_ne true (Ne.symm hk)]) n hjn
        omega
  have h0 := key n (Array.replicate l.toArray.size false) a0 { w0 with drawn := w0.drawn + 1 }
    ⟨by simp, fun j oj _ hl => (by rw [getD_replicate_false] at hl; cases hl), fun t _ ht => getD_in (by simpa using ht) (getD_replicate_false _ _)⟩
    (by
      have : ∀ i ∈ List.range n, ((fun i => (Array.replicate l.toArray.size false).getD i true == false) i) = true := fun i hi => by
        have := List.mem_range.1 hi
        have h2 : i < l.toArray.size := by simp; omega
        have h3 := getD_in (listed := Array.replicate l.toArray.size false) (i := i) (by simpa using h2) (getD_replicate_false _ _)
        show ((Array.replicate l.toArray.size false).getD i true == false) = true
        rw [h3]; rfl
      rw [List.countP_eq_length.2 this]; simp)
    ⟨(Dr.refl S w0).drew, rfl, rfl, fun _ _ => rfl, fun j d hj hl => (by rw [getD_replicate_false] at hl; cases hl)⟩
  rw [show n + (l.length - n) = l.toArray.size by simp; omega] at h0
  exact h0

def freeB (l : List Oper) (n t : Nat) : Bool := (List.range n).all fun j => decide (dstOf l j ≠ some t)
def waitsB (o : Oper) (j : Nat) : Bool := o.after.any fun e => Region.binds .any e && e.on == j
abbrev Fact := Value → World → Prop
def Stable (S : Nat) (F : Fact) : Prop := ∀ v w w', Dr S w w' → F v w → F v w'
def StableAll (S : Nat) : List Fact → Prop
  | [] => True
  | F :: Fs => Stable S F ∧ StableAll S Fs
/-- The temporary of operation j keeps its fact. -/
def Kept (l : List Oper) (Fs : List Fact) (o : Oper) (a : Act) (w : World) : Prop := ∀ j d, waitsB o j = true → dstOf l j = some d → (Fs.getD j fun _ _ => True) (a.tmps[d]?.getD undef) w
def Old (l : List Oper) (n : Nat) (a0 a : Act) : Prop := ∀ t, freeB l n t = true → a.tmps[t]?.getD undef = a0.tmps[t]?.getD undef
def FStep (S : Nat) (P : Program) (l : List Oper) (n : Nat) (Fs : List Fact) (a0 : Act) (w0 : World) (Q : Exit → Act → World → Prop) (o : Oper) (F : Fact) : Prop :=
  ∀ a w, Dr S w0 w → Old l n a0 a → Kept l Fs o a w → (Region.wanted o (yielded l.toArray a.tmps) = true ∧ o.wp P a w (fun a' w' => Dr S w w' ∧ ∃ v, a' = a.put o.dst v ∧ F v w') Q) ∨ (Region.wanted o (yielded l.toArray a.tmps) = false ∧ F undef w)
def StepAll (S : Nat) (P : Program) (l : List Oper) (n : Nat) (Fs : List Fact) (a0 : Act) (w0 : World) (Q : Exit → Act → World → Prop) : List Oper → List Fact → Prop
  | o :: os, F :: Rs => FStep S P l n Fs a0 w0 Q o F ∧ StepAll S P l n Fs a0 w0 Q os Rs
  | [], [] => True
  | _, _ => False
def EndAll (w : World) (G : List Value → Prop) : List Fact → List Value → Prop
  | [], acc => G acc
  | F :: Fs, acc => ∀ v, F v w → EndAll w G Fs (acc ++ [v])

theorem StableAll.get {Fs : List Fact} (h : StableAll S Fs) (i : Nat)   : Stable S (Fs.getD i fun _ _ => True) := by
  induction Fs generalizing i with
  | nil => intro v w w' _ _; simp
  | cons F Fs ih =>
    cases i with
    | zero => simpa using h.1
    | succ i => simpa using ih h.2 i

theorem StepAll.get {Fs : List Fact} : ∀ (os : List Oper) (Rs : List Fact), StepAll S P l n Fs a0 w0 Q os Rs → os.length = Rs.length ∧ ∀ i o, os[i]? = some o → FStep S P l n Fs a0 w0 Q o (Rs.getD i fun _ _ => True)
  | [], [], _ => ⟨rfl, fun i o h => by simp at h⟩
  | o :: os, F :: Rs, h => by
    obtain ⟨h1, h2⟩ := StepAll.get os Rs h.2
    refine ⟨by simp [h1], fun i o' ho => ?_⟩
    cases i with
    | zero => have : o = o' := by simpa using ho
              subst this; simpa using h.1
    | succ i => simpa using h2 i o' (by simpa using ho)
  | [], _ :: _, h => h.elim
  | _ :: _, [], h => h.elim

theorem EndAll.get {w : World} {G : List Value → Prop} : ∀ (Fs : List Fact) (acc vs : List Value), EndAll w G Fs acc → vs.length = Fs.length → (∀ i v, vs[i]? = some v → (Fs.getD i fun _ _ => True) v w) → G (acc ++ vs)
  | [], acc, vs, h, hl, _ => by
    have : vs = [] := List.eq_nil_of_length_eq_zero (by simpa using hl)
    subst this; simpa using (show G acc from h)
  | F :: Fs, acc, [], h, hl, _ => by simp at hl
  | F :: Fs, acc, v :: vs, h, hl, hf => by
    have := EndAll.get Fs (acc ++ [v]) vs (h v (by simpa using hf 0 v rfl)) (by simpa using hl) (fun i u hu => by simpa using hf (i + 1) u (by simpa using hu))
    simpa using this

/-- The rule in the form that a walk uses: one fact for each operation of the head, one goal for each. -/
theorem wp_facts {id : Nat} (Fs : List Fact) (hm : P.follows .mixedOrders = true) (hB : factsB l Fs.length a0.tmps.size = true) (hF : StableAll S Fs)
    (hstep : StepAll S P l Fs.length Fs a0 w0 Q (l.take Fs.length) Fs)
    (hend : ∀ w, Dr S w0 w → EndAll w (fun vs => wpList P l.toArray Q (l.drop Fs.length) (putAll a0 (l.take Fs.length) vs) w) Fs []) :
    (Code.region id l.toArray true).wp P Q a0 w0 := by
  obtain ⟨h1, h2⟩ := StepAll.get _ _ hstep
  refine wp_region_facts Fs.length (fun i => Fs.getD i fun _ _ => True) hm hB (fun i v w w' hn hf => hF.get i v w w' hn hf) (fun i o hi ho a w hw _ hold hdep => ?_) (fun vs w hl hw hf => ?_)
  · refine h2 i o (by rw [List.getElem?_take, if_pos hi]; exact ho) a w hw (fun t ht => hold t (fun j hj => ?_)) (fun j d hj hd => ?_)
    · have := List.all_eq_true.1 ht j (List.mem_range.2 hj)
      simpa using this
    · obtain ⟨e, he, hb⟩ := Array.any_eq_true'.1 hj
      simp only [Bool.and_eq_true, beq_iff_eq] at hb
      obtain ⟨hb1, rfl⟩ := hb
      exact hdep e he hb1 d hd
  · simpa using EndAll.get Fs [] vs (hend w hw) hl hf

theorem stable_eq (x : Value) : Stable S (fun v _ => v = x) := fun _ _ _ _ h => h
theorem stable_true : Stable S (fun _ _ => True) := fun _ _ _ _ _ => trivial
theorem look {o : Option Value} {b : Bool} (h : o.getD undef = .bool b) : o = some (.bool b) := by
  cases o with
  | none => cases h
  | some x => exact congrArg some h
end
end RD
end Go.Proofs.YteielmihlfakgaaGreatDoor
/- A region that draws its order, whose callees make memory, with steps that are guarded: each operation tells a fact of its value; whatever the order, all facts hold at its end. -/
namespace Go.Proofs.YteielmihlfakgaaGreatDoor
open Go Go.RowKit
set_option linter.unusedVariables false
set_option linter.unusedSimpArgs false
namespace RG

def dstOf (l : List Oper) (i : Nat) : Option Nat := (l[i]?).bind (·.dst)

def factsB (l : List Oper) (n size : Nat) : Bool :=
  decide (n ≤ l.length) &&
  (List.range n).all (fun i => match l[i]? with
    | some o => (match o.dst with | some d => decide (d < size) | none => false) && o.after.all (fun e => !Region.binds .any e || decide (e.on < i)) && (List.range i).all (fun j => decide (dstOf l j ≠ dstOf l i))
    | none => false) &&
  (decide (n = l.length) || (decide (n < l.length) && Region.sinkB .any l.toArray n && Region.chainB .any l.toArray n && Region.seqB .any l.toArray (l.length - n) n ((List.range l.length).map fun i => decide (i < n)).toArray))

theorem factsB_op {l : List Oper} {n size : Nat} (h : factsB l n size = true) {i : Nat} (hi : i < n) :
    ∃ o d, l[i]? = some o ∧ True ∧ o.dst = some d ∧ d < size ∧ (∀ e ∈ o.after, Region.binds .any e = true → e.on < i) ∧ ∀ j, j < i → dstOf l j ≠ some d := by
  unfold factsB at h
  simp only [Bool.and_eq_true] at h
  have h1 := List.all_eq_true.1 h.1.2 i (List.mem_range.2 hi)
  cases ho : l[i]? with
  | none => simp [ho] at h1
  | some o =>
    simp only [ho, Bool.and_eq_true] at h1
    obtain ⟨⟨hd, ha⟩, hj⟩ := h1
    cases hdd : o.dst with
    | none => simp [hdd] at hd
    | some d =>
      refine ⟨o, d, rfl, trivial, hdd, by simpa [hdd] using hd, fun e he hb => ?_, fun j hj' => ?_⟩
      · have := Array.all_eq_true'.1 ha e he
        simpa [hb] using this
      · have := List.all_eq_true.1 hj j (List.mem_range.2 hj')
        simpa [dstOf, ho, hdd] using this

theorem factsB_le {l : List Oper} {n size : Nat} (h : factsB l n size = true) : n ≤ l.length := by
  unfold factsB at h
  simp only [Bool.and_eq_true, decide_eq_true_eq] at h
  exact h.1.1

theorem factsB_inj {l : List Oper} {n size : Nat} (h : factsB l n size = true) {i j d : Nat} (hi : i < n) (hj : j < n) (h1 : dstOf l i = some d) (h2 : dstOf l j = some d) : i = j := by
  rcases Nat.lt_trichotomy i j with hij | hij | hij
  · obtain ⟨o, d', ho, _, hd, _, _, hne⟩ := factsB_op h hj
    have : d' = d := by simpa [dstOf, ho, hd] using h2
    exact absurd h1 (this ▸ hne i hij)
  · exact hij
  · obtain ⟨o, d', ho, _, hd, _, _, hne⟩ := factsB_op h hi
    have : d' = d := by simpa [dstOf, ho, hd] using h1
    exact absurd h2 (this ▸ hne j hij)

def putAll (a : Act) : List Oper → List Value → Act
  | o :: os, v :: vs => putAll (a.put o.dst v) os vs
  | _, _ => a

theorem putAll_defers : ∀ (os : List Oper) (vs : List Value) (a : Act), (putAll a os vs).defers = a.defers
  | [], vs, a => rfl
  | o :: os, [], a => rfl
  | o :: os, v :: vs, a => by
    rw [putAll, putAll_defers os vs]
    cases o.dst <;> rfl

theorem put_tmps_ne {a : Act} {d : Option Nat} {v : Value} {t : Nat} (h : d ≠ some t) : (a.put d v).tmps[t]? = a.tmps[t]? := by
  cases d with
  | none => rfl
  | some d =>
    have : d ≠ t := fun e => h (by rw [e])
    simp [Act.put, Array.getElem?_setIfInBounds_ne this]

theorem put_tmps_size {a : Act} {d : Option Nat} {v : Value} : (a.put d v).tmps.size = a.tmps.size := by
  cases d <;> simp [Act.put]

theorem putAll_other : ∀ (os : List Oper) (vs : List Value) (a : Act) (t : Nat), (∀ o ∈ os, o.dst ≠ some t) → (putAll a os vs).tmps[t]? = a.tmps[t]?
  | [], vs, a, t, _ => rfl
  | o :: os, [], a, t, _ => rfl
  | o :: os, v :: vs, a, t, h => by
    rw [putAll, putAll_other os vs _ t (fun o' ho => h o' (by simp [ho])), put_tmps_ne (h o (by simp))]

theorem putAll_at : ∀ (os : List Oper) (vs : List Value) (a : Act) (j t : Nat) (u : Value), dstOf os j = some t → vs[j]? = some u → t < a.tmps.size → (∀ k, k ≠ j → dstOf os k ≠ some t) →
    (putAll a os vs).tmps[t]? = some u
  | [], vs, a, j, t, u, hd, _, _, _ => by simp [dstOf] at hd
  | o :: os, [], a, j, t, u, _, hv, _, _ => by simp at hv
  | o :: os, v :: vs, a, 0, t, u, hd, hv, ht, hne => by
    have hd' : o.dst = some t := by simpa [dstOf] using hd
    have hv' : v = u := by simpa using hv
    rw [putAll, putAll_other os vs _ t (fun o' ho => ?_)]
    · rw [hd', hv']
      simp [Act.put, ht]
    · obtain ⟨k, hk⟩ := List.getElem?_of_mem ho
      have := hne (k + 1) (by omega)
      simpa [dstOf, hk] using this
  | o :: os, v :: vs, a, j + 1, t, u, hd, hv, ht, hne => by
    rw [putAll]
    refine putAll_at os vs _ j t u (by simpa [dstOf] using hd) (by simpa using hv) (by rw [put_tmps_size]; exact ht) (fun k hk => ?_)
    have := hne (k + 1) (by omega)
    simpa [dstOf] using this

theorem count_set (p q : Nat → Bool) (i : Nat) (hp : p i = true) (hq : q i = false) (hpq : ∀ j, j ≠ i → p j = q j) : ∀ n, i < n → (List.range n).countP p = (List.range n).countP q + 1 := by
  intro n
  induction n with
  | zero => intro h; omega
  | succ n ih =>
    intro h
    rw [List.range_succ, List.countP_append, List.countP_append]
    by_cases hin : i < n
    · rw [ih hin]
      have : p n = q n := hpq n (by omega)
      simp [List.countP_cons, this]; omega
    · have hi : i = n := by omega
      subst hi
      have e : (List.range i).countP p = (List.range i).countP q := List.countP_congr (fun j hj => by
        rw [hpq j (by have := List.mem_range.1 hj; omega)])
      simp [List.countP_cons, hp, hq, e]

theorem least {p : Nat → Prop} : ∀ n, p n → ∃ i, i ≤ n ∧ p i ∧ ∀ j, j < i → ¬ p j := by
  intro n
  induction n using Nat.strongRecOn with
  | _ n ih =>
    intro hn
    by_cases h : ∃ j, j < n ∧ p j
    · obtain ⟨j, hj, hpj⟩ := h
      obtain ⟨i, h1, h2, h3⟩ := ih j hj hpj
      exact ⟨i, by omega, h2, h3⟩
    · exact ⟨n, Nat.le_refl _, hn, fun j hj hpj => h ⟨j, hj, hpj⟩⟩

section
variable {P : Program} {l : List Oper} {n : Nat} {F : Nat → Value → World → Prop} {a0 : Act} {w0 : World} {Q : Exit → Act → World → Prop}

structure FInv (l : List Oper) (n : Nat) (F : Nat → Value → World → Prop) (a0 : Act) (w0 : World) (listed : Array Bool) (a : Act) (w : World) : Prop where
  new : New w0 w
  defers : a.defers = a0.defers
  size : a.tmps.size = a0.tmps.size
  other : ∀ t, (∀ j, j < n → dstOf l j = some t → listed.getD j false = false) → a.tmps[t]? = a0.tmps[t]?
  fact : ∀ j d, j < n → listed.getD j false = true → dstOf l j = some d → F j (a.tmps[d]?.getD undef) w

theorem getD_in' {listed : Array Bool} {i : Nat} (hi : i < listed.size) : listed.getD i false = listed.getD i true := by
  simp [hi]

theorem FInv.set {listed : Array Bool} {a : Act} {w w' : World} {i : Nat} {o : Oper} {d : Nat} {v : Value} (hB : factsB l n a0.tmps.size = true) (hF : ∀ i v w w', New w w' → F i v w → F i v w')
    (inv : FInv l n F a0 w0 listed a w) (hi : i < n) (hsz : listed.size = l.length) (ho : l[i]? = some o) (hd : o.dst = some d) (hw : New w w') (hf : F i v w') :
    FInv l n F a0 w0 (listed.setIfInBounds i true) (a.put o.dst v) w' := by
  have hle := factsB_le hB
  obtain ⟨o', d', ho', _, hd', hds, _, _⟩ := factsB_op hB hi
  obtain rfl : o' = o := by rw [ho] at ho'; exact (Option.some.inj ho').symm
  obtain rfl : d' = d := by rw [hd] at hd'; exact (Option.some.inj hd').symm
  have hdi : dstOf l i = some d' := by simp [dstOf, ho, hd]
  refine ⟨inv.new.trans hw, ?_, by rw [put_tmps_size]; exact inv.size, fun t ht => ?_, fun j e hj hl he => ?_⟩
  · rw [hd]; exact inv.defers
  · have hne : o'.dst ≠ some t := fun e => by
      have := ht i hi (by rw [hdi, ← e, hd])
      simp [show i < listed.size by omega] at this
    rw [put_tmps_ne hne]
    refine inv.other t (fun j hj hjt => ?_)
    have := ht j hj hjt
    by_cases hji : i = j
    · subst hji; rw [hdi, ← hd] at hjt; exact absurd hjt hne
    · rwa [getD_set_ne false hji] at this
  · by_cases hji : i = j
    · subst hji
      obtain rfl : d' = e := by rw [hdi] at he; exact Option.some.inj he
      rw [hd]
      have : (a.put (some d') v).tmps[d']?.getD undef = v := by
        simp [Act.put, show d' < a.tmps.size by rw [inv.size]; exact hds]
      rw [this]; exact hf
    · rw [getD_set_ne false hji] at hl
      have hne : o'.dst ≠ some e := fun h => hji (factsB_inj hB hi hj (by rw [hdi, ← h, hd]) he)
      rw [put_tmps_ne hne]
      exact hF _ _ _ _ hw (inv.fact j e hj hl he)

theorem wp_region_facts {id : Nat} (n : Nat) (F : Nat → Value → World → Prop) (hm : P.follows .mixedOrders = true) (hB : factsB l n a0.tmps.size = true)
    (hF : ∀ i v w w', New w w' → F i v w → F i v w')
    (hstep : ∀ i o, i < n → l[i]? = some o → ∀ a w, New w0 w → a.defers = a0.defers →
      (∀ t, (∀ j, j < n → dstOf l j ≠ some t) → a.tmps[t]?.getD undef = a0.tmps[t]?.getD undef) →
      (∀ e ∈ o.after, Region.binds .any e = true → ∀ d, dstOf l e.on = some d → F e.on (a.tmps[d]?.getD undef) w) →
      (Region.wanted o (yielded l.toArray a.tmps) = true ∧ o.wp P a w (fun a' w' => New w w' ∧ ∃ v, a' = a.put o.dst v ∧ F i v w') Q) ∨ (Region.wanted o (yielded l.toArray a.tmps) = false ∧ F i undef w))
    (hend : ∀ vs w, vs.length = n → New w0 w → (∀ i v, vs[i]? = some v → F i v w) → wpList P l.toArray Q (l.drop n) (putAll a0 (l.take n) vs) w) :
    (Code.region id l.toArray true).wp P Q a0 w0 := by
  have hle := factsB_le hB
  refine wp_region_any hm ?_
  have key : ∀ f listed a w, HeadInv .any l.toArray n listed → (List.range n).countP (fun i => listed.getD i true == false) = f → FInv l n F a0 w0 listed a w → wpAny P .any l.toArray Q (f + (l.length - n)) listed a w := by
    intro f
    induction f with
    | zero =>
      intro listed a w hh hc inv
      have hsz : listed.size = l.length := by rw [hh.size]; simp
      have hall : ∀ i, i < n → listed.getD i true = true := fun i hi => by
        have := List.countP_eq_zero.1 hc i (List.mem_range.2 hi)
        simpa using this
      have hend' : wpList P l.toArray Q (l.drop n) a w := by
        have hvs : ((List.range n).map fun j => a.tmps[(dstOf l j).getD 0]?.getD undef).length = n := by simp
        have hf : ∀ i v, ((List.range n).map fun j => a.tmps[(dstOf l j).getD 0]?.getD undef)[i]? = some v → F i v w := by
          intro i v hv
          have hi : i < n := by have := (List.getElem?_eq_some_iff.1 hv).1; simpa using this
          obtain ⟨o, d, ho, _, hd, _, _, _⟩ := factsB_op hB hi
          have hdi : dstOf l i = some d := by simp [dstOf, ho, hd]
          have hv' : a.tmps[d]?.getD undef = v := by simpa [List.getElem?_map, List.getElem?_range hi, hdi] using hv
          rw [← hv']
          exact inv.fact i d hi (by rw [getD_in' (by omega)]; exact hall i hi) hdi
        have hX := hend _ w hvs inv.new hf
        have ea : putAll a0 (l.take n) ((List.range n).map fun j => a.tmps[(dstOf l j).getD 0]?.getD undef) = a := by
          have ed := putAll_defers (l.take n) ((List.range n).map fun j => a.tmps[(dstOf l j).getD 0]?.getD undef) a0
          have et : (putAll a0 (l.take n) ((List.range n).map fun j => a.tmps[(dstOf l j).getD 0]?.getD undef)).tmps = a.tmps := by
            apply Array.ext_getElem?
            intro t
            by_cases ht : ∃ j, j < n ∧ dstOf l j = some t
            · obtain ⟨j, hj, hjt⟩ := ht
              obtain ⟨o, d, ho, _, hd, hds, _, _⟩ := factsB_op hB hj
              have hdt : d = t := by simpa [dstOf, ho, hd] using hjt
              subst hdt
              have htk : ∀ k, dstOf (l.take n) k = if k < n then dstOf l k else none := fun k => by
                unfold dstOf; rw [List.getElem?_take]; split <;> rfl
              rw [putAll_at _ _ _ j d (a.tmps[d]?.getD undef) (by rw [htk, if_pos hj]; exact hjt) (by simp [List.getElem?_range hj, hjt]) hds (fun k hk => by
                rw [htk]; split
                · rename_i hkn; exact fun h => hk (factsB_inj hB hkn hj h hjt)
                · simp)]
              have : d < a.tmps.size := by rw [inv.size]; exact hds
              simp [this]
            · have hnone : ∀ j, j < n → dstOf l j ≠ some t := fun j hj h => ht ⟨j, hj, h⟩
              rw [putAll_other _ _ _ t (fun o ho h => by
                obtain ⟨k, hk⟩ := List.getElem?_of_mem ho
                rw [List.getElem?_take] at hk
                split at hk
                · rename_i hkn
                  exact hnone k hkn (by simp [dstOf, hk, h])
                · cases hk)]
              exact (inv.other t (fun j hj hjt => absurd hjt (hnone j hj))).symm
          cases hq : putAll a0 (l.take n) ((List.range n).map fun j => a.tmps[(dstOf l j).getD 0]?.getD undef) with
          | mk tm df =>
            rw [hq] at ed et
            simp only at ed et
            rw [ed, et, ← inv.defers]
        rw [ea] at hX
        exact hX
      rw [Nat.zero_add]
      unfold factsB at hB
      simp only [Bool.and_eq_true, Bool.or_eq_true, decide_eq_true_eq] at hB
      have hlit : listed = ((List.range l.length).map fun i => decide (i < n)).toArray := by
        apply Array.ext
        · simp [hsz]
        · intro i h1 h2
          simp only [List.size_toArray, List.length_map, List.length_range] at h2
          by_cases hi : i < n
          · have := hall i hi
            simpa [h1, hi] using this
          · have := hh.tail i (by omega) (by simpa using h2)
            simpa [h1, hi] using this
      rcases hB.2 with hn | hn
      · have hd0 : l.drop n = [] := by rw [hn]; simp
        rw [hd0] at hend'
        rw [show l.length - n = 0 by omega]
        refine ⟨?_, hend'⟩
        cases hr : Region.ready .any l.toArray listed with
        | nil => rfl
        | cons x xs =>
          have hx : x ∈ Region.ready .any l.toArray listed := by rw [hr]; simp
          obtain ⟨h1, ox, hox, _⟩ := mem_ready.1 hx
          have hxl : x < n := by have := (Array.getElem?_eq_some_iff.1 hox).1; simp at this; omega
          rw [hall x hxl] at h1; cases h1
      · have := wpAny_of_seq (P := P) (md := .any) (ops := l.toArray) (Q' := Q) (l.drop n) n listed a w (fun j => by simp [List.getElem?_drop]) (by rw [List.length_drop, hlit]; exact hn.2) hend'
        rwa [List.length_drop] at this
    | succ f ih =>
      intro listed a w hh hc inv
      have hsz : listed.size = l.length := by rw [hh.size]; simp
      rw [show f + 1 + (l.length - n) = (f + (l.length - n)) + 1 by omega]
      have hex : ∃ i, i < n ∧ listed.getD i true = false := by
        have hpos : 0 < (List.range n).countP (fun i => listed.getD i true == false) := by omega
        obtain ⟨i, hi, hp⟩ := List.countP_pos_iff.1 hpos
        exact ⟨i, List.mem_range.1 hi, by simpa using hp⟩
      obtain ⟨i0, hi0, hu0⟩ := hex
      obtain ⟨i, hin, ⟨hiu, hin'⟩, hmin⟩ := least (p := fun i => listed.getD i true = false ∧ i < n) i0 ⟨hu0, hi0⟩
      have hready : i ∈ Region.ready .any l.toArray listed := by
        obtain ⟨o, d, ho, _, _, _, hlow, _⟩ := factsB_op hB hin'
        refine mem_ready.2 ⟨hiu, o, by simpa using ho, fun e he hb => ?_⟩
        have hlt := hlow e he hb
        have := hmin e.on hlt
        have h2 : listed.getD e.on true = true := by
          cases h : listed.getD e.on true with
          | true => rfl
          | false => exact absurd ⟨h, by omega⟩ this
        rw [getD_in' (by omega)]; exact h2
      refine ⟨(fun h => by rw [h] at hready; cases hready), fun j hj => ?_⟩
      have hjn : j < n := by
        have hB' := hB
        unfold factsB at hB'
        simp only [Bool.and_eq_true, Bool.or_eq_true, decide_eq_true_eq] at hB'
        obtain ⟨_, oj, hoj, _⟩ := mem_ready.1 hj
        have hjl : j < l.length := by have := (Array.getElem?_eq_some_iff.1 hoj).1; simpa using this
        rcases hB'.2 with hn | hn
        · omega
        · rcases Nat.lt_or_ge j n with h | h
          · exact h
          · exact absurd hj (tail_waits hn.1.1.2 hn.1.2 (by simpa using hn.1.1.1) hh (n - i0) i0 rfl hi0 hu0 j h)
      obtain ⟨hju, oj, hoj, hall⟩ := mem_ready.1 hj
      obtain ⟨o, d, ho, hg, hd, hds, hlow, _⟩ := factsB_op hB hjn
      obtain rfl : oj = o := by have : l[j]? = some oj := by simpa using hoj
                                rw [this] at ho; exact Option.some.inj ho
      unfold wpOp
      simp only [hoj]
      rcases hstep j oj hjn ho a w inv.new inv.defers (fun t ht => (by rw [inv.other t (fun k hk hkt => absurd hkt (ht k hk))])) (fun e he hb d' hd' => inv.fact e.on d' (by have := hlow e he hb; omega) (hall e he hb) hd') with ⟨hwt, hs⟩ | ⟨hwt, hs⟩
      · rw [if_pos hwt]
        refine .inl (Oper.wp_mono (fun a' w' hk => ?_) hs)
        obtain ⟨hw, v, rfl, hf⟩ := hk
        refine ih _ _ _ (hh.set hj hjn) ?_ (inv.set hB hF hjn hsz ho hd hw hf)
        have := count_set (fun i => listed.getD i true == false) (fun i => (listed.setIfInBounds j true).getD i true == false) j (by simp [hju]) (by simp [show j < listed.size by omega]) (fun k hk => by
          simp only [getD_set_ne true (Ne.symm hk)]) n hjn
        omega
      · rw [if_neg (by rw [hwt]; simp)]
        refine ih _ _ _ (hh.set hj hjn) ?_ (inv.set hB hF hjn hsz ho hd (New.refl _) hs)
        have := count_set (fun i => listed.getD i true == false) (fun i => (listed.setIfInBounds j true).getD i true == false) j (by simp [hju]) (by simp [show j < listed.size by omega]) (fun k hk => by
          simp only [getD_set_ne true (Ne.symm hk)]) n hjn
        omega
  have h0 := key n (Array.replicate l.toArray.size false) a0 { w0 with drawn := w0.drawn + 1 }
    ⟨by simp, fun j oj _ hl => (by rw [getD_replicate_false] at hl; cases hl), fun t _ ht => getD_in (by simpa using ht) (getD_replicate_false _ _)⟩
    (by
      have : ∀ i ∈ List.range n, ((fun i => (Array.replicate l.toArray.size false).getD i true == false) i) = true := fun i hi => by
        have := List.mem_range.1 hi
        have h2 : i < l.toArray.size := by simp; omega
        have h3 := getD_in (listed := Array.replicate l.toArray.size false) (i := i) (by simpa using h2) (getD_replicate_false _ _)
        show ((Array.replicate l.toArray.size false).getD i true == false) = true
        rw [h3]; rfl
      rw [List.countP_eq_length.2 this]; simp)
    ⟨(New.refl w0).drew, rfl, rfl, fun _ _ => rfl, fun j d hj hl => (by rw [getD_replicate_false] at hl; cases hl)⟩
  rw [show n + (l.length - n) = l.toArray.size by simp; omega] at h0
  exact h0

def freeB (l : List Oper) (n t : Nat) : Bool := (List.range n).all fun j => decide (dstOf l j ≠ some t)
def waitsB (o : Oper) (j : Nat) : Bool := o.after.any fun e => Region.binds .any e && e.on == j
abbrev Fact := Value → World → Prop
def Stable (F : Fact) : Prop := ∀ v w w', New w w' → F v w → F v w'
def StableAll : List Fact → Prop
  | [] => True
  | F :: Fs => Stable F ∧ StableAll Fs
/-- The temporary of operation j keeps its fact. -/
def Kept (l : List Oper) (Fs : List Fact) (o : Oper) (a : Act) (w : World) : Prop := ∀ j d, waitsB o j = true → dstOf l j = some d → (Fs.getD j fun _ _ => True) (a.tmps[d]?.getD undef) w
def Old (l : List Oper) (n : Nat) (a0 a : Act) : Prop := ∀ t, freeB l n t = true → a.tmps[t]?.getD undef = a0.tmps[t]?.getD undef
def FStep (P : Program) (l : List Oper) (n : Nat) (Fs : List Fact) (a0 : Act) (w0 : World) (Q : Exit → Act → World → Prop) (o : Oper) (F : Fact) : Prop :=
  ∀ a w, New w0 w → Old l n a0 a → Kept l Fs o a w → (Region.wanted o (yielded l.toArray a.tmps) = true ∧ o.wp P a w (fun a' w' => New w w' ∧ ∃ v, a' = a.put o.dst v ∧ F v w') Q) ∨ (Region.wanted o (yielded l.toArray a.tmps) = false ∧ F undef w)
def StepAll (P : Program) (l : List Oper) (n : Nat) (Fs : List Fact) (a0 : Act) (w0 : World) (Q : Exit → Act → World → Prop) : List Oper → List Fact → Prop
  | o :: os, F :: Rs => FStep P l n Fs a0 w0 Q o F ∧ StepAll P l n Fs a0 w0 Q os Rs
  | [], [] => True
  | _, _ => False
def EndAll (w : World) (G : List Value → Prop) : List Fact → List Value → Prop
  | [], acc => G acc
  | F :: Fs, acc => ∀ v, F v w → EndAll w G Fs (acc ++ [v])

theorem StableAll.get {Fs : List Fact} (h : StableAll Fs) (i : Nat) : Stable (Fs.getD i fun _ _ => True) := by
  induction Fs generalizing i with
  | nil => intro v w w' _ _; simp
  | cons F Fs ih =>
    cases i with
    | zero => simpa using h.1
    | succ i => simpa using ih h.2 i

theorem StepAll.get {Fs : List Fact} : ∀ (os : List Oper) (Rs : List Fact), StepAll P l n Fs a0 w0 Q os Rs → os.length = Rs.length ∧ ∀ i o, os[i]? = some o → FStep P l n Fs a0 w0 Q o (Rs.getD i fun _ _ => True)
  | [], [], _ => ⟨rfl, fun i o h => by simp at h⟩
  | o :: os, F :: Rs, h => by
    obtain ⟨h1, h2⟩ := StepAll.get os Rs h.2
    refine ⟨by simp [h1], fun i o' ho => ?_⟩
    cases i with
    | zero => have : o = o' := by simpa using ho
              subst this; simpa using h.1
    | succ i => simpa using h2 i o' (by simpa using ho)
  | [], _ :: _, h => h.elim
  | _ :: _, [], h => h.elim

theorem EndAll.get {w : World} {G : List Value → Prop} : ∀ (Fs : List Fact) (acc vs : List Value), EndAll w G Fs acc → vs.length = Fs.length → (∀ i v, vs[i]? = some v → (Fs.getD i fun _ _ => True) v w) → G (acc ++ vs)
  | [], acc, vs, h, hl, _ => by
    have : vs = [] := List.eq_nil_of_length_eq_zero (by simpa using hl)
    subst this; simpa using (show G acc from h)
  | F :: Fs, acc, [], h, hl, _ => by simp at hl
  | F :: Fs, acc, v :: vs, h, hl, hf => by
    have := EndAll.get Fs (acc ++ [v]) vs (h v (by simpa using hf 0 v rfl)) (by simpa using hl) (fun i u hu => by simpa using hf (i + 1) u (by simpa using hu))
    simpa using this

/-- The rule in the form that a walk uses: one fact for each operation of the head, one goal for each. -/
theorem wp_facts {id : Nat} (Fs : List Fact) (hm : P.follows .mixedOrders = true) (hB : factsB l Fs.length a0.tmps.size = true) (hF : StableAll Fs)
    (hstep : StepAll P l Fs.length Fs a0 w0 Q (l.take Fs.length) Fs)
    (hend : ∀ w, New w0 w → EndAll w (fun vs => wpList P l.toArray Q (l.drop Fs.length) (putAll a0 (l.take Fs.length) vs) w) Fs []) :
    (Code.region id l.toArray true).wp P Q a0 w0 := by
  obtain ⟨h1, h2⟩ := StepAll.get _ _ hstep
  refine wp_region_facts Fs.length (fun i => Fs.getD i fun _ _ => True) hm hB (fun i v w w' hn hf => hF.get i v w w' hn hf) (fun i o hi ho a w hw _ hold hdep => ?_) (fun vs w hl hw hf => ?_)
  · refine h2 i o (by rw [List.getElem?_take, if_pos hi]; exact ho) a w hw (fun t ht => hold t (fun j hj => ?_)) (fun j d hj hd => ?_)
    · have := List.all_eq_true.1 ht j (List.mem_range.2 hj)
      simpa using this
    · obtain ⟨e, he, hb⟩ := Array.any_eq_true'.1 hj
      simp only [Bool.and_eq_true, beq_iff_eq] at hb
      obtain ⟨hb1, rfl⟩ := hb
      exact hdep e he hb1 d hd
  · simpa using EndAll.get Fs [] vs (hend w hw) hl hf

theorem stable_eq (x : Value) : Stable (fun v _ => v = x) := fun _ _ _ _ h => h
/-- A pointer to a new block that the region makes. -/
def NewPtr (w0 : World) (cs : Array Value) (ty : TypeId) : Fact := fun v w => ∃ b, v = .pointer (some ⟨b, 0, none⟩) ∧ w0.heap.size ≤ b ∧ b < w.heap.size ∧ w.heap[b]? = some (.cells cs ty (0, 0))
theorem stable_ptr (w0 : World) (cs : Array Value) (ty : TypeId) : Stable (NewPtr w0 cs ty) := fun v w w' hn ⟨b, h1, h2, h3, h4⟩ => ⟨b, h1, h2, Nat.lt_of_lt_of_le h3 hn.size, (Below.block hn b h3).trans h4⟩
theorem stable_true : Stable (fun _ _ => True) := fun _ _ _ _ _ => trivial
theorem look {o : Option Value} {b : Bool} (h : o.getD undef = .bool b) : o = some (.bool b) := by
  cases o with
  | none => cases h
  | some x => exact congrArg some h
end
end RG
end Go.Proofs.YteielmihlfakgaaGreatDoor
/- A region that draws its order, whose callees make memory: each operation tells a fact of its value; whatever the order, all facts hold at its end. -/
namespace Go.Proofs.YteielmihlfakgaaGreatDoor
open Go Go.RowKit
set_option linter.unusedVariables false
set_option linter.unusedSimpArgs false

def dstOf (l : List Oper) (i : Nat) : Option Nat := (l[i]?).bind (·.dst)

def factsB (l : List Oper) (n size : Nat) : Bool :=
  decide (n ≤ l.length) &&
  (List.range n).all (fun i => match l[i]? with
    | some o => o.guard.isNone && (match o.dst with | some d => decide (d < size) | none => false) && o.after.all (fun e => !Region.binds .any e || decide (e.on < i)) && (List.range i).all (fun j => decide (dstOf l j ≠ dstOf l i))
    | none => false) &&
  (decide (n = l.length) || (decide (n < l.length) && Region.sinkB .any l.toArray n && Region.chainB .any l.toArray n && Region.seqB .any l.toArray (l.length - n) n ((List.range l.length).map fun i => decide (i < n)).toArray))

theorem factsB_op {l : List Oper} {n size : Nat} (h : factsB l n size = true) {i : Nat} (hi : i < n) :
    ∃ o d, l[i]? = some o ∧ o.guard = none ∧ o.dst = some d ∧ d < size ∧ (∀ e ∈ o.after, Region.binds .any e = true → e.on < i) ∧ ∀ j, j < i → dstOf l j ≠ some d := by
  unfold factsB at h
  simp only [Bool.and_eq_true] at h
  have h1 := List.all_eq_true.1 h.1.2 i (List.mem_range.2 hi)
  cases ho : l[i]? with
  | none => simp [ho] at h1
  | some o =>
    simp only [ho, Bool.and_eq_true] at h1
    obtain ⟨⟨⟨hg, hd⟩, ha⟩, hj⟩ := h1
    cases hdd : o.dst with
    | none => simp [hdd] at hd
    | some d =>
      refine ⟨o, d, rfl, by simpa using hg, hdd, by simpa [hdd] using hd, fun e he hb => ?_, fun j hj' => ?_⟩
      · have := Array.all_eq_true'.1 ha e he
        simpa [hb] using this
      · have := List.all_eq_true.1 hj j (List.mem_range.2 hj')
        simpa [dstOf, ho, hdd] using this

theorem factsB_le {l : List Oper} {n size : Nat} (h : factsB l n size = true) : n ≤ l.length := by
  unfold factsB at h
  simp only [Bool.and_eq_true, decide_eq_true_eq] at h
  exact h.1.1

theorem factsB_inj {l : List Oper} {n size : Nat} (h : factsB l n size = true) {i j d : Nat} (hi : i < n) (hj : j < n) (h1 : dstOf l i = some d) (h2 : dstOf l j = some d) : i = j := by
  rcases Nat.lt_trichotomy i j with hij | hij | hij
  · obtain ⟨o, d', ho, _, hd, _, _, hne⟩ := factsB_op h hj
    have : d' = d := by simpa [dstOf, ho, hd] using h2
    exact absurd h1 (this ▸ hne i hij)
  · exact hij
  · obtain ⟨o, d', ho, _, hd, _, _, hne⟩ := factsB_op h hi
    have : d' = d := by simpa [dstOf, ho, hd] using h1
    exact absurd h2 (this ▸ hne j hij)

def putAll (a : Act) : List Oper → List Value → Act
  | o :: os, v :: vs => putAll (a.put o.dst v) os vs
  | _, _ => a

theorem putAll_defers : ∀ (os : List Oper) (vs : List Value) (a : Act), (putAll a os vs).defers = a.defers
  | [], vs, a => rfl
  | o :: os, [], a => rfl
  | o :: os, v :: vs, a => by
    rw [putAll, putAll_defers os vs]
    cases o.dst <;> rfl

theorem put_tmps_ne {a : Act} {d : Option Nat} {v : Value} {t : Nat} (h : d ≠ some t) : (a.put d v).tmps[t]? = a.tmps[t]? := by
  cases d with
  | none => rfl
  | some d =>
    have : d ≠ t := fun e => h (by rw [e])
    simp [Act.put, Array.getElem?_setIfInBounds_ne this]

theorem put_tmps_size {a : Act} {d : Option Nat} {v : Value} : (a.put d v).tmps.size = a.tmps.size := by
  cases d <;> simp [Act.put]

theorem putAll_other : ∀ (os : List Oper) (vs : List Value) (a : Act) (t : Nat), (∀ o ∈ os, o.dst ≠ some t) → (putAll a os vs).tmps[t]? = a.tmps[t]?
  | [], vs, a, t, _ => rfl
  | o :: os, [], a, t, _ => rfl
  | o :: os, v :: vs, a, t, h => by
    rw [putAll, putAll_other os vs _ t (fun o' ho => h o' (by simp [ho])), put_tmps_ne (h o (by simp))]

theorem putAll_at : ∀ (os : List Oper) (vs : List Value) (a : Act) (j t : Nat) (u : Value), dstOf os j = some t → vs[j]? = some u → t < a.tmps.size → (∀ k, k ≠ j → dstOf os k ≠ some t) →
    (putAll a os vs).tmps[t]? = some u
  | [], vs, a, j, t, u, hd, _, _, _ => by simp [dstOf] at hd
  | o :: os, [], a, j, t, u, _, hv, _, _ => by simp at hv
  | o :: os, v :: vs, a, 0, t, u, hd, hv, ht, hne => by
    have hd' : o.dst = some t := by simpa [dstOf] using hd
    have hv' : v = u := by simpa using hv
    rw [putAll, putAll_other os vs _ t (fun o' ho => ?_)]
    · rw [hd', hv']
      simp [Act.put, ht]
    · obtain ⟨k, hk⟩ := List.getElem?_of_mem ho
      have := hne (k + 1) (by omega)
      simpa [dstOf, hk] using this
  | o :: os, v :: vs, a, j + 1, t, u, hd, hv, ht, hne => by
    rw [putAll]
    refine putAll_at os vs _ j t u (by simpa [dstOf] using hd) (by simpa using hv) (by rw [put_tmps_size]; exact ht) (fun k hk => ?_)
    have := hne (k + 1) (by omega)
    simpa [dstOf] using this

theorem count_set (p q : Nat → Bool) (i : Nat) (hp : p i = true) (hq : q i = false) (hpq : ∀ j, j ≠ i → p j = q j) : ∀ n, i < n → (List.range n).countP p = (List.range n).countP q + 1 := by
  intro n
  induction n with
  | zero => intro h; omega
  | succ n ih =>
    intro h
    rw [List.range_succ, List.countP_append, List.countP_append]
    by_cases hin : i < n
    · rw [ih hin]
      have : p n = q n := hpq n (by omega)
      simp [List.countP_cons, this]; omega
    · have hi : i = n := by omega
      subst hi
      have e : (List.range i).countP p = (List.range i).countP q := List.countP_congr (fun j hj => by
        rw [hpq j (by have := List.mem_range.1 hj; omega)])
      simp [List.countP_cons, hp, hq, e]

theorem least {p : Nat → Prop} : ∀ n, p n → ∃ i, i ≤ n ∧ p i ∧ ∀ j, j < i → ¬ p j := by
  intro n
  induction n using Nat.strongRecOn with
  | _ n ih =>
    intro hn
    by_cases h : ∃ j, j < n ∧ p j
    · obtain ⟨j, hj, hpj⟩ := h
      obtain ⟨i, h1, h2, h3⟩ := ih j hj hpj
      exact ⟨i, by omega, h2, h3⟩
    · exact ⟨n, Nat.le_refl _, hn, fun j hj hpj => h ⟨j, hj, hpj⟩⟩

section
variable {P : Program} {l : List Oper} {n : Nat} {F : Nat → Value → World → Prop} {a0 : Act} {w0 : World} {Q : Exit → Act → World → Prop}

structure FInv (l : List Oper) (n : Nat) (F : Nat → Value → World → Prop) (a0 : Act) (w0 : World) (listed : Array Bool) (a : Act) (w : World) : Prop where
  new : New w0 w
  defers : a.defers = a0.defers
  size : a.tmps.size = a0.tmps.size
  other : ∀ t, (∀ j, j < n → dstOf l j = some t → listed.getD j false = false) → a.tmps[t]? = a0.tmps[t]?
  fact : ∀ j d, j < n → listed.getD j false = true → dstOf l j = some d → F j (a.tmps[d]?.getD undef) w

theorem getD_in' {listed : Array Bool} {i : Nat} (hi : i < listed.size) : listed.getD i false = listed.getD i true := by
  simp [hi]

theorem FInv.set {listed : Array Bool} {a : Act} {w w' : World} {i : Nat} {o : Oper} {d : Nat} {v : Value} (hB : factsB l n a0.tmps.size = true) (hF : ∀ i v w w', New w w' → F i v w → F i v w')
    (inv : FInv l n F a0 w0 listed a w) (hi : i < n) (hsz : listed.size = l.length) (ho : l[i]? = some o) (hd : o.dst = some d) (hw : New w w') (hf : F i v w') :
    FInv l n F a0 w0 (listed.setIfInBounds i true) (a.put o.dst v) w' := by
  have hle := factsB_le hB
  obtain ⟨o', d', ho', _, hd', hds, _, _⟩ := factsB_op hB hi
  obtain rfl : o' = o := by rw [ho] at ho'; exact (Option.some.inj ho').symm
  obtain rfl : d' = d := by rw [hd] at hd'; exact (Option.some.inj hd').symm
  have hdi : dstOf l i = some d' := by simp [dstOf, ho, hd]
  refine ⟨inv.new.trans hw, ?_, by rw [put_tmps_size]; exact inv.size, fun t ht => ?_, fun j e hj hl he => ?_⟩
  · rw [hd]; exact inv.defers
  · have hne : o'.dst ≠ some t := fun e => by
      have := ht i hi (by rw [hdi, ← e, hd])
      simp [show i < listed.size by omega] at this
    rw [put_tmps_ne hne]
    refine inv.other t (fun j hj hjt => ?_)
    have := ht j hj hjt
    by_cases hji : i = j
    · subst hji; rw [hdi, ← hd] at hjt; exact absurd hjt hne
    · rwa [getD_set_ne false hji] at this
  · by_cases hji : i = j
    · subst hji
      obtain rfl : d' = e := by rw [hdi] at he; exact Option.some.inj he
      rw [hd]
      have : (a.put (some d') v).tmps[d']?.getD undef = v := by
        simp [Act.put, show d' < a.tmps.size by rw [inv.size]; exact hds]
      rw [this]; exact hf
    · rw [getD_set_ne false hji] at hl
      have hne : o'.dst ≠ some e := fun h => hji (factsB_inj hB hi hj (by rw [hdi, ← h, hd]) he)
      rw [put_tmps_ne hne]
      exact hF _ _ _ _ hw (inv.fact j e hj hl he)

theorem wp_region_facts {id : Nat} (n : Nat) (F : Nat → Value → World → Prop) (hm : P.follows .mixedOrders = true) (hB : factsB l n a0.tmps.size = true)
    (hF : ∀ i v w w', New w w' → F i v w → F i v w')
    (hstep : ∀ i o, i < n → l[i]? = some o → ∀ a w, New w0 w → a.defers = a0.defers →
      (∀ t, (∀ j, j < n → dstOf l j ≠ some t) → a.tmps[t]?.getD undef = a0.tmps[t]?.getD undef) →
      (∀ e ∈ o.after, Region.binds .any e = true → ∀ d, dstOf l e.on = some d → F e.on (a.tmps[d]?.getD undef) w) →
      o.wp P a w (fun a' w' => New w w' ∧ ∃ v, a' = a.put o.dst v ∧ F i v w') Q)
    (hend : ∀ vs w, vs.length = n → New w0 w → (∀ i v, vs[i]? = some v → F i v w) → wpList P l.toArray Q (l.drop n) (putAll a0 (l.take n) vs) w) :
    (Code.region id l.toArray true).wp P Q a0 w0 := by
  have hle := factsB_le hB
  refine wp_region_any hm ?_
  have key : ∀ f listed a w, HeadInv .any l.toArray n listed → (List.range n).countP (fun i => listed.getD i true == false) = f → FInv l n F a0 w0 listed a w → wpAny P .any l.toArray Q (f + (l.length - n)) listed a w := by
    intro f
    induction f with
    | zero =>
      intro listed a w hh hc inv
      have hsz : listed.size = l.length := by rw [hh.size]; simp
      have hall : ∀ i, i < n → listed.getD i true = true := fun i hi => by
        have := List.countP_eq_zero.1 hc i (List.mem_range.2 hi)
        simpa using this
      have hend' : wpList P l.toArray Q (l.drop n) a w := by
        have hvs : ((List.range n).map fun j => a.tmps[(dstOf l j).getD 0]?.getD undef).length = n := by simp
        have hf : ∀ i v, ((List.range n).map fun j => a.tmps[(dstOf l j).getD 0]?.getD undef)[i]? = some v → F i v w := by
          intro i v hv
          have hi : i < n := by have := (List.getElem?_eq_some_iff.1 hv).1; simpa using this
          obtain ⟨o, d, ho, _, hd, _, _, _⟩ := factsB_op hB hi
          have hdi : dstOf l i = some d := by simp [dstOf, ho, hd]
          have hv' : a.tmps[d]?.getD undef = v := by simpa [List.getElem?_map, List.getElem?_range hi, hdi] using hv
          rw [← hv']
          exact inv.fact i d hi (by rw [getD_in' (by omega)]; exact hall i hi) hdi
        have hX := hend _ w hvs inv.new hf
        have ea : putAll a0 (l.take n) ((List.range n).map fun j => a.tmps[(dstOf l j).getD 0]?.getD undef) = a := by
          have ed := putAll_defers (l.take n) ((List.range n).map fun j => a.tmps[(dstOf l j).getD 0]?.getD undef) a0
          have et : (putAll a0 (l.take n) ((List.range n).map fun j => a.tmps[(dstOf l j).getD 0]?.getD undef)).tmps = a.tmps := by
            apply Array.ext_getElem?
            intro t
            by_cases ht : ∃ j, j < n ∧ dstOf l j = some t
            · obtain ⟨j, hj, hjt⟩ := ht
              obtain ⟨o, d, ho, _, hd, hds, _, _⟩ := factsB_op hB hj
              have hdt : d = t := by simpa [dstOf, ho, hd] using hjt
              subst hdt
              have htk : ∀ k, dstOf (l.take n) k = if k < n then dstOf l k else none := fun k => by
                unfold dstOf; rw [List.getElem?_take]; split <;> rfl
              rw [putAll_at _ _ _ j d (a.tmps[d]?.getD undef) (by rw [htk, if_pos hj]; exact hjt) (by simp [List.getElem?_range hj, hjt]) hds (fun k hk => by
                rw [htk]; split
                · rename_i hkn; exact fun h => hk (factsB_inj hB hkn hj h hjt)
                · simp)]
              have : d < a.tmps.size := by rw [inv.size]; exact hds
              simp [this]
            · have hnone : ∀ j, j < n → dstOf l j ≠ some t := fun j hj h => ht ⟨j, hj, h⟩
              rw [putAll_other _ _ _ t (fun o ho h => by
                obtain ⟨k, hk⟩ := List.getElem?_of_mem ho
                rw [List.getElem?_take] at hk
                split at hk
                · rename_i hkn
                  exact hnone k hkn (by simp [dstOf, hk, h])
                · cases hk)]
              exact (inv.other t (fun j hj hjt => absurd hjt (hnone j hj))).symm
          cases hq : putAll a0 (l.take n) ((List.range n).map fun j => a.tmps[(dstOf l j).getD 0]?.getD undef) with
          | mk tm df =>
            rw [hq] at ed et
            simp only at ed et
            rw [ed, et, ← inv.defers]
        rw [ea] at hX
        exact hX
      rw [Nat.zero_add]
      unfold factsB at hB
      simp only [Bool.and_eq_true, Bool.or_eq_true, decide_eq_true_eq] at hB
      have hlit : listed = ((List.range l.length).map fun i => decide (i < n)).toArray := by
        apply Array.ext
        · simp [hsz]
        · intro i h1 h2
          simp only [List.size_toArray, List.length_map, List.length_range] at h2
          by_cases hi : i < n
          · have := hall i hi
            simpa [h1, hi] using this
          · have := hh.tail i (by omega) (by simpa using h2)
            simpa [h1, hi] using this
      rcases hB.2 with hn | hn
      · have hd0 : l.drop n = [] := by rw [hn]; simp
        rw [hd0] at hend'
        rw [show l.length - n = 0 by omega]
        refine ⟨?_, hend'⟩
        cases hr : Region.ready .any l.toArray listed with
        | nil => rfl
        | cons x xs =>
          have hx : x ∈ Region.ready .any l.toArray listed := by rw [hr]; simp
          obtain ⟨h1, ox, hox, _⟩ := mem_ready.1 hx
          have hxl : x < n := by have := (Array.getElem?_eq_some_iff.1 hox).1; simp at this; omega
          rw [hall x hxl] at h1; cases h1
      · have := wpAny_of_seq (P := P) (md := .any) (ops := l.toArray) (Q' := Q) (l.drop n) n listed a w (fun j => by simp [List.getElem?_drop]) (by rw [List.length_drop, hlit]; exact hn.2) hend'
        rwa [List.length_drop] at this
    | succ f ih =>
      intro listed a w hh hc inv
      have hsz : listed.size = l.length := by rw [hh.size]; simp
      rw [show f + 1 + (l.length - n) = (f + (l.length - n)) + 1 by omega]
      have hex : ∃ i, i < n ∧ listed.getD i true = false := by
        have hpos : 0 < (List.range n).countP (fun i => listed.getD i true == false) := by omega
        obtain ⟨i, hi, hp⟩ := List.countP_pos_iff.1 hpos
        exact ⟨i, List.mem_range.1 hi, by simpa using hp⟩
      obtain ⟨i0, hi0, hu0⟩ := hex
      obtain ⟨i, hin, ⟨hiu, hin'⟩, hmin⟩ := least (p := fun i => listed.getD i true = false ∧ i < n) i0 ⟨hu0, hi0⟩
      have hready : i ∈ Region.ready .any l.toArray listed := by
        obtain ⟨o, d, ho, _, _, _, hlow, _⟩ := factsB_op hB hin'
        refine mem_ready.2 ⟨hiu, o, by simpa using ho, fun e he hb => ?_⟩
        have hlt := hlow e he hb
        have := hmin e.on hlt
        have h2 : listed.getD e.on true = true := by
          cases h : listed.getD e.on true with
          | true => rfl
          | false => exact absurd ⟨h, by omega⟩ this
        rw [getD_in' (by omega)]; exact h2
      refine ⟨(fun h => by rw [h] at hready; cases hready), fun j hj => ?_⟩
      have hjn : j < n := by
        have hB' := hB
        unfold factsB at hB'
        simp only [Bool.and_eq_true, Bool.or_eq_true, decide_eq_true_eq] at hB'
        obtain ⟨_, oj, hoj, _⟩ := mem_ready.1 hj
        have hjl : j < l.length := by have := (Array.getElem?_eq_some_iff.1 hoj).1; simpa using this
        rcases hB'.2 with hn | hn
        · omega
        · rcases Nat.lt_or_ge j n with h | h
          · exact h
          · exact absurd hj (tail_waits hn.1.1.2 hn.1.2 (by simpa using hn.1.1.1) hh (n - i0) i0 rfl hi0 hu0 j h)
      obtain ⟨hju, oj, hoj, hall⟩ := mem_ready.1 hj
      obtain ⟨o, d, ho, hg, hd, hds, hlow, _⟩ := factsB_op hB hjn
      obtain rfl : oj = o := by have : l[j]? = some oj := by simpa using hoj
                                rw [this] at ho; exact Option.some.inj ho
      unfold wpOp
      simp only [hoj]
      rw [if_pos (by simp [Region.wanted, hg])]
      refine .inl (Oper.wp_mono (fun a' w' hk => ?_) (hstep j oj hjn ho a w inv.new inv.defers (fun t ht => ?_) (fun e he hb d' hd' => ?_)))
      · obtain ⟨hw, v, rfl, hf⟩ := hk
        refine ih _ _ _ (hh.set hj hjn) ?_ (inv.set hB hF hjn hsz ho hd hw hf)
        have := count_set (fun i => listed.getD i true == false) (fun i => (listed.setIfInBounds j true).getD i true == false) j (by simp [hju]) (by simp [show j < listed.size by omega]) (fun k hk => by
          simp only [getD_set_ne true (Ne.symm hk)]) n hjn
        omega
      · rw [inv.other t (fun k hk hkt => absurd hkt (ht k hk))]
      · have hlt := hlow e he hb
        exact inv.fact e.on d' (by omega) (hall e he hb) hd'
  have h0 := key n (Array.replicate l.toArray.size false) a0 { w0 with drawn := w0.drawn + 1 }
    ⟨by simp, fun j oj _ hl => (by rw [getD_replicate_false] at hl; cases hl), fun t _ ht => getD_in (by simpa using ht) (getD_replicate_false _ _)⟩
    (by
      have : ∀ i ∈ List.range n, ((fun i => (Array.replicate l.toArray.size false).getD i true == false) i) = true := fun i hi => by
        have := List.mem_range.1 hi
        have h2 : i < l.toArray.size := by simp; omega
        have h3 := getD_in (listed := Array.replicate l.toArray.size false) (i := i) (by simpa using h2) (getD_replicate_false _ _)
        show ((Array.replicate l.toArray.size false).getD i true == false) = true
        rw [h3]; rfl
      rw [List.countP_eq_length.2 this]; simp)
    ⟨(New.refl w0).drew, rfl, rfl, fun _ _ => rfl, fun j d hj hl => (by rw [getD_replicate_false] at hl; cases hl)⟩
  rw [show n + (l.length - n) = l.toArray.size by simp; omega] at h0
  exact h0

def freeB (l : List Oper) (n t : Nat) : Bool := (List.range n).all fun j => decide (dstOf l j ≠ some t)
def waitsB (o : Oper) (j : Nat) : Bool := o.after.any fun e => Region.binds .any e && e.on == j
abbrev Fact := Value → World → Prop
def Stable (F : Fact) : Prop := ∀ v w w', New w w' → F v w → F v w'
def StableAll : List Fact → Prop
  | [] => True
  | F :: Fs => Stable F ∧ StableAll Fs
/-- The temporary of operation j keeps its fact. -/
def Kept (l : List Oper) (Fs : List Fact) (o : Oper) (a : Act) (w : World) : Prop := ∀ j d, waitsB o j = true → dstOf l j = some d → (Fs.getD j fun _ _ => True) (a.tmps[d]?.getD undef) w
def Old (l : List Oper) (n : Nat) (a0 a : Act) : Prop := ∀ t, freeB l n t = true → a.tmps[t]?.getD undef = a0.tmps[t]?.getD undef
def FStep (P : Program) (l : List Oper) (n : Nat) (Fs : List Fact) (a0 : Act) (w0 : World) (Q : Exit → Act → World → Prop) (o : Oper) (F : Fact) : Prop :=
  ∀ a w, New w0 w → Old l n a0 a → Kept l Fs o a w → o.wp P a w (fun a' w' => New w w' ∧ ∃ v, a' = a.put o.dst v ∧ F v w') Q
def StepAll (P : Program) (l : List Oper) (n : Nat) (Fs : List Fact) (a0 : Act) (w0 : World) (Q : Exit → Act → World → Prop) : List Oper → List Fact → Prop
  | o :: os, F :: Rs => FStep P l n Fs a0 w0 Q o F ∧ StepAll P l n Fs a0 w0 Q os Rs
  | [], [] => True
  | _, _ => False
def EndAll (w : World) (G : List Value → Prop) : List Fact → List Value → Prop
  | [], acc => G acc
  | F :: Fs, acc => ∀ v, F v w → EndAll w G Fs (acc ++ [v])

theorem StableAll.get {Fs : List Fact} (h : StableAll Fs) (i : Nat) : Stable (Fs.getD i fun _ _ => True) := by
  induction Fs generalizing i with
  | nil => intro v w w' _ _; simp
  | cons F Fs ih =>
    cases i with
    | zero => simpa using h.1
    | succ i => simpa using ih h.2 i

theorem StepAll.get {Fs : List Fact} : ∀ (os : List Oper) (Rs : List Fact), StepAll P l n Fs a0 w0 Q os Rs → os.length = Rs.length ∧ ∀ i o, os[i]? = some o → FStep P l n Fs a0 w0 Q o (Rs.getD i fun _ _ => True)
  | [], [], _ => ⟨rfl, fun i o h => by simp at h⟩
  | o :: os, F :: Rs, h => by
    obtain ⟨h1, h2⟩ := StepAll.get os Rs h.2
    refine ⟨by simp [h1], fun i o' ho => ?_⟩
    cases i with
    | zero => have : o = o' := by simpa using ho
              subst this; simpa using h.1
    | succ i => simpa using h2 i o' (by simpa using ho)
  | [], _ :: _, h => h.elim
  | _ :: _, [], h => h.elim

theorem EndAll.get {w : World} {G : List Value → Prop} : ∀ (Fs : List Fact) (acc vs : List Value), EndAll w G Fs acc → vs.length = Fs.length → (∀ i v, vs[i]? = some v → (Fs.getD i fun _ _ => True) v w) → G (acc ++ vs)
  | [], acc, vs, h, hl, _ => by
    have : vs = [] := List.eq_nil_of_length_eq_zero (by simpa using hl)
    subst this; simpa using (show G acc from h)
  | F :: Fs, acc, [], h, hl, _ => by simp at hl
  | F :: Fs, acc, v :: vs, h, hl, hf => by
    have := EndAll.get Fs (acc ++ [v]) vs (h v (by simpa using hf 0 v rfl)) (by simpa using hl) (fun i u hu => by simpa using hf (i + 1) u (by simpa using hu))
    simpa using this

/-- The rule in the form that a walk uses: one fact for each operation of the head, one goal for each. -/
theorem wp_facts {id : Nat} (Fs : List Fact) (hm : P.follows .mixedOrders = true) (hB : factsB l Fs.length a0.tmps.size = true) (hF : StableAll Fs)
    (hstep : StepAll P l Fs.length Fs a0 w0 Q (l.take Fs.length) Fs)
    (hend : ∀ w, New w0 w → EndAll w (fun vs => wpList P l.toArray Q (l.drop Fs.length) (putAll a0 (l.take Fs.length) vs) w) Fs []) :
    (Code.region id l.toArray true).wp P Q a0 w0 := by
  obtain ⟨h1, h2⟩ := StepAll.get _ _ hstep
  refine wp_region_facts Fs.length (fun i => Fs.getD i fun _ _ => True) hm hB (fun i v w w' hn hf => hF.get i v w w' hn hf) (fun i o hi ho a w hw _ hold hdep => ?_) (fun vs w hl hw hf => ?_)
  · refine h2 i o (by rw [List.getElem?_take, if_pos hi]; exact ho) a w hw (fun t ht => hold t (fun j hj => ?_)) (fun j d hj hd => ?_)
    · have := List.all_eq_true.1 ht j (List.mem_range.2 hj)
      simpa using this
    · obtain ⟨e, he, hb⟩ := Array.any_eq_true'.1 hj
      simp only [Bool.and_eq_true, beq_iff_eq] at hb
      obtain ⟨hb1, rfl⟩ := hb
      exact hdep e he hb1 d hd
  · simpa using EndAll.get Fs [] vs (hend w hw) hl hf

theorem stable_eq (x : Value) : Stable (fun v _ => v = x) := fun _ _ _ _ h => h
/-- A pointer to a new block that the region makes. -/
def NewPtr (w0 : World) (cs : Array Value) (ty : TypeId) : Fact := fun v w => ∃ b, v = .pointer (some ⟨b, 0, none⟩) ∧ w0.heap.size ≤ b ∧ b < w.heap.size ∧ w.heap[b]? = some (.cells cs ty (0, 0))
theorem stable_ptr (w0 : World) (cs : Array Value) (ty : TypeId) : Stable (NewPtr w0 cs ty) := fun v w w' hn ⟨b, h1, h2, h3, h4⟩ => ⟨b, h1, h2, Nat.lt_of_lt_of_le h3 hn.size, (Below.block hn b h3).trans h4⟩
theorem stable_true : Stable (fun _ _ => True) := fun _ _ _ _ _ => trivial
end
end Go.Proofs.YteielmihlfakgaaGreatDoor
