/- As RegionC, with a fact of the world that holds all the way. -/
import Derived.Test.YteielmihlfakgaaGreatDoorProg
import Derived.Test.YteielmihlfakgaaGreatDoorRegionC
namespace Go.Proofs.YteielmihlfakgaaGreatDoor
open Go Go.RowKit
set_option linter.unusedVariables false
set_option linter.unusedSimpArgs false
namespace RI
open RG RC
section
variable {P : Program} {l : List Oper} {n : Nat} {F : Nat → Value → World → Prop} {a0 : Act} {w0 wb : World} {J I : World → Prop} {Q : Exit → Act → World → Prop} {lin : List (Option Nat)} {apps : List Bool} {Tk : TypeId}
structure CInv (l : List Oper) (n : Nat) (F : Nat → Value → World → Prop) (lin : List (Option Nat)) (apps : List Bool) (J I : World → Prop) (a0 : Act) (wb : World) (listed : Array Bool) (a : Act) (w : World) : Prop where
  new : New wb w
  alw : I w
  init : (∀ c, c < n → apps.getD c false = true → listed.getD c false = false) → J w
  defers : a.defers = a0.defers
  size : a.tmps.size = a0.tmps.size
  other : ∀ t, (∀ j, j < n → dstOf l j = some t → listed.getD j false = false) → a.tmps[t]? = a0.tmps[t]?
  fact : ∀ j d, j < n → listed.getD j false = true → live lin listed j → dstOf l j = some d → F j (a.tmps[d]?.getD undef) w
theorem CInv.set {listed : Array Bool} {a : Act} {w w' : World} {i : Nat} {o : Oper} {d : Nat} {v : Value} (hB : factsB l n a0.tmps.size = true)
    (inv : CInv l n F lin apps J I a0 wb listed a w) (hi : i < n) (hsz : listed.size = l.length) (ho : l[i]? = some o) (hd : o.dst = some d) (hw : New wb w') (hi9 : I w') (hj : (∀ c, c < n → apps.getD c false = true → (listed.setIfInBounds i true).getD c false = false) → J w') (hf : F i v w')
    (hkeep : ∀ j u, j < n → j ≠ i → listed.getD j false = true → live lin (listed.setIfInBounds i true) j → F j u w → F j u w') :
    CInv l n F lin apps J I a0 wb (listed.setIfInBounds i true) (a.put o.dst v) w' := by
  have hle := factsB_le hB
  obtain ⟨o', d', ho', _, hd', hds, _, _⟩ := factsB_op hB hi
  obtain rfl : o' = o := by rw [ho] at ho'; exact (Option.some.inj ho').symm
  obtain rfl : d' = d := by rw [hd] at hd'; exact (Option.some.inj hd').symm
  have hdi : dstOf l i = some d' := by simp [dstOf, ho, hd]
  refine ⟨hw, hi9, hj, ?_, by rw [put_tmps_size]; exact inv.size, fun t ht => ?_, fun j e hj hl hlv he => ?_⟩
  · rw [hd]; exact inv.defers
  · have hne : o'.dst ≠ some t := fun e => by
      have := ht i hi (by rw [hdi, ← e, hd])
      simp [show i < listed.size by omega] at this
    rw [put_tmps_ne hne]
    refine inv.other t (fun j hj hjt => ?_)
    have := ht j hj hjt
    by_cases hji : i = j
    · subst hji; rw [hdi, ← hd] at hjt; exact absurd hjt hne
    · rwa [getD_set_ne false hji] at this
  · by_cases hji : i = j
    · subst hji
      obtain rfl : d' = e := by rw [hdi] at he; exact Option.some.inj he
      rw [hd]
      have : (a.put (some d') v).tmps[d']?.getD undef = v := by
        simp [Act.put, show d' < a.tmps.size by rw [inv.size]; exact hds]
      rw [this]; exact hf
    · rw [getD_set_ne false hji] at hl
      have hne : o'.dst ≠ some e := fun h => hji (factsB_inj hB hi hj (by rw [hdi, ← h, hd]) he)
      rw [put_tmps_ne hne]
      refine hkeep j _ hj (Ne.symm hji) hl hlv (inv.fact j e hj hl (fun c hc => ?_) he)
      have h1 := hlv c hc
      by_cases hic : i = c
      · subst hic
        simp [show i < listed.size by omega] at h1
      · rwa [getD_set_ne false hic] at h1
theorem wp_region_facts {id : Nat} (n : Nat) (F : Nat → Value → World → Prop) (lin : List (Option Nat)) (apps : List Bool) (Tk : TypeId) (hm : P.follows .mixedOrders = true) (hB : factsB l n a0.tmps.size = true) (hL : linB l n lin apps = true)
    (hF : ∀ i v w w', New w w' → F i v w → F i v w')
    (hwb : New wb w0) (hJ0 : J w0) (hJ : ∀ w w', New w w' → J w → J w') (hI0 : I w0) (hIN : ∀ w w', New w w' → I w → I w') (hIG : ∀ w w', New wb w → Gr wb Tk w w' → I w → I w')
    (hG : ∀ i v w w', lin.getD i none = none → New wb w → Gr wb Tk w w' → F i v w → F i v w')
    (hstep : ∀ i o, i < n → l[i]? = some o → ∀ a w, New wb w → I w → (firstB l n apps i = true → J w) → a.defers = a0.defers →
      (∀ t, (∀ j, j < n → dstOf l j ≠ some t) → a.tmps[t]?.getD undef = a0.tmps[t]?.getD undef) →
      (∀ e ∈ o.after, Region.binds .any e = true → ∀ d, dstOf l e.on = some d → F e.on (a.tmps[d]?.getD undef) w) →
      (Region.wanted o (yielded l.toArray a.tmps) = true ∧ o.wp P a w (fun a' w' => (if apps.getD i false = true then Gr wb Tk w w' else New w w') ∧ ∃ v, a' = a.put o.dst v ∧ F i v w') Q) ∨ (Region.wanted o (yielded l.toArray a.tmps) = false ∧ F i undef w))
    (hend : ∀ vs w, vs.length = n → New wb w → I w → (∀ i v, vs[i]? = some v → (∀ c, lin.getD i none = some c → n ≤ c) → F i v w) → wpList P l.toArray Q (l.drop n) (putAll a0 (l.take n) vs) w) :
    (Code.region id l.toArray true).wp P Q a0 w0 := by
  have hle := factsB_le hB
  refine wp_region_any hm ?_
  have key : ∀ f listed a w, HeadInv .any l.toArray n listed → (List.range n).countP (fun i => listed.getD i true == false) = f → CInv l n F lin apps J I a0 wb listed a w → wpAny P .any l.toArray Q (f + (l.length - n)) listed a w := by
    intro f
    induction f with
    | zero =>
      intro listed a w hh hc inv
      have hsz : listed.size = l.length := by rw [hh.size]; simp
      have hall : ∀ i, i < n → listed.getD i true = true := fun i hi => by
        have := List.countP_eq_zero.1 hc i (List.mem_range.2 hi)
        simpa using this
      have hend' : wpList P l.toArray Q (l.drop n) a w := by
        have hvs : ((List.range n).map fun j => a.tmps[(dstOf l j).getD 0]?.getD undef).length = n := by simp
        have hf : ∀ i v, ((List.range n).map fun j => a.tmps[(dstOf l j).getD 0]?.getD undef)[i]? = some v → (∀ c, lin.getD i none = some c → n ≤ c) → F i v w := by
          intro i v hv hlc
          have hi : i < n := by have := (List.getElem?_eq_some_iff.1 hv).1; simpa using this
          obtain ⟨o, d, ho, _, hd, _, _, _⟩ := factsB_op hB hi
          have hdi : dstOf l i = some d := by simp [dstOf, ho, hd]
          have hv' : a.tmps[d]?.getD undef = v := by simpa [List.getElem?_map, List.getElem?_range hi, hdi] using hv
          rw [← hv']
          exact inv.fact i d hi (by rw [getD_in' (by omega)]; exact hall i hi) (fun c hc => by
            have hn := hlc c hc
            rcases Nat.lt_or_ge c l.length with h | h
            · exact getD_both (hh.tail c hn (by simpa using h))
            · simp [Array.getElem?_eq_none (show listed.size ≤ c by omega)]) hdi
        have hX := hend _ w hvs inv.new inv.alw hf
        have ea : putAll a0 (l.take n) ((List.range n).map fun j => a.tmps[(dstOf l j).getD 0]?.getD undef) = a := by
          have ed := putAll_defers (l.take n) ((List.range n).map fun j => a.tmps[(dstOf l j).getD 0]?.getD undef) a0
          have et : (putAll a0 (l.take n) ((List.range n).map fun j => a.tmps[(dstOf l j).getD 0]?.getD undef)).tmps = a.tmps := by
            apply Array.ext_getElem?
            intro t
            by_cases ht : ∃ j, j < n ∧ dstOf l j = some t
            · obtain ⟨j, hj, hjt⟩ := ht
              obtain ⟨o, d, ho, _, hd, hds, _, _⟩ := factsB_op hB hj
              have hdt : d = t := by simpa [dstOf, ho, hd] using hjt
              subst hdt
              have htk : ∀ k, dstOf (l.take n) k = if k < n then dstOf l k else none := fun k => by
                unfold dstOf; rw [List.getElem?_take]; split <;> rfl
              rw [putAll_at _ _ _ j d (a.tmps[d]?.getD undef) (by rw [htk, if_pos hj]; exact hjt) (by simp [List.getElem?_range hj, hjt]) hds (fun k hk => by
                rw [htk]; split
                · rename_i hkn; exact fun h => hk (factsB_inj hB hkn hj h hjt)
                · simp)]
              have : d < a.tmps.size := by rw [inv.size]; exact hds
              simp [this]
            · have hnone : ∀ j, j < n → dstOf l j ≠ some t := fun j hj h => ht ⟨j, hj, h⟩
              rw [putAll_other _ _ _ t (fun o ho h => by
                obtain ⟨k, hk⟩ := List.getElem?_of_mem ho
                rw [List.getElem?_take] at hk
                split at hk
                · rename_i hkn
                  exact hnone k hkn (by simp [dstOf, hk, h])
                · cases hk)]
              exact (inv.other t (fun j hj hjt => absurd hjt (hnone j hj))).symm
          cases hq : putAll a0 (l.take n) ((List.range n).map fun j => a.tmps[(dstOf l j).getD 0]?.getD undef) with
          | mk tm df =>
            rw [hq] at ed et
            simp only at ed et
            rw [ed, et, ← inv.defers]
        rw [ea] at hX
        exact hX
      rw [Nat.zero_add]
      unfold factsB at hB
      simp only [Bool.and_eq_true, Bool.or_eq_true, decide_eq_true_eq] at hB
      have hlit : listed = ((List.range l.length).map fun i => decide (i < n)).toArray := by
        apply Array.ext
        · simp [hsz]
        · intro i h1 h2
          simp only [List.size_toArray, List.length_map, List.length_range] at h2
          by_cases hi : i < n
          · have := hall i hi
            simpa [h1, hi] using this
          · have := hh.tail i (by omega) (by simpa using h2)
            simpa [h1, hi] using this
      rcases hB.2 with hn | hn
      · have hd0 : l.drop n = [] := by rw [hn]; simp
        rw [hd0] at hend'
        rw [show l.length - n = 0 by omega]
        refine ⟨?_, hend'⟩
        cases hr : Region.ready .any l.toArray listed with
        | nil => rfl
        | cons x xs =>
          have hx : x ∈ Region.ready .any l.toArray listed := by rw [hr]; simp
          obtain ⟨h1, ox, hox, _⟩ := mem_ready.1 hx
          have hxl : x < n := by have := (Array.getElem?_eq_some_iff.1 hox).1; simp at this; omega
          rw [hall x hxl] at h1; cases h1
      · have := wpAny_of_seq (P := P) (md := .any) (ops := l.toArray) (Q' := Q) (l.drop n) n listed a w (fun j => by simp [List.getElem?_drop]) (by rw [List.length_drop, hlit]; exact hn.2) hend'
        rwa [List.length_drop] at this
    | succ f ih =>
      intro listed a w hh hc inv
      have hsz : listed.size = l.length := by rw [hh.size]; simp
      rw [show f + 1 + (l.length - n) = (f + (l.length - n)) + 1 by omega]
      have hex : ∃ i, i < n ∧ listed.getD i true = false := by
        have hpos : 0 < (List.range n).countP (fun i => listed.getD i true == false) := by omega
        obtain ⟨i, hi, hp⟩ := List.countP_pos_iff.1 hpos
        exact ⟨i, List.mem_range.1 hi, by simpa using hp⟩
      obtain ⟨i0, hi0, hu0⟩ := hex
      obtain ⟨i, hin, ⟨hiu, hin'⟩, hmin⟩ := least (p := fun i => listed.getD i true = false ∧ i < n) i0 ⟨hu0, hi0⟩
      have hready : i ∈ Region.ready .any l.toArray listed := by
        obtain ⟨o, d, ho, _, _, _, hlow, _⟩ := factsB_op hB hin'
        refine mem_ready.2 ⟨hiu, o, by simpa using ho, fun e he hb => ?_⟩
        have hlt := hlow e he hb
        have := hmin e.on hlt
        have h2 : listed.getD e.on true = true := by
          cases h : listed.getD e.on true with
          | true => rfl
          | false => exact absurd ⟨h, by omega⟩ this
        rw [getD_in' (by omega)]; exact h2
      refine ⟨(fun h => by rw [h] at hready; cases hready), fun j hj => ?_⟩
      have hjn : j < n := by
        have hB' := hB
        unfold factsB at hB'
        simp only [Bool.and_eq_true, Bool.or_eq_true, decide_eq_true_eq] at hB'
        obtain ⟨_, oj, hoj, _⟩ := mem_ready.1 hj
        have hjl : j < l.length := by have := (Array.getElem?_eq_some_iff.1 hoj).1; simpa using this
        rcases hB'.2 with hn | hn
        · omega
        · rcases Nat.lt_or_ge j n with h | h
          · exact h
          · exact absurd hj (tail_waits hn.1.1.2 hn.1.2 (by simpa using hn.1.1.1) hh (n - i0) i0 rfl hi0 hu0 j h)
      obtain ⟨hju, oj, hoj, hall⟩ := mem_ready.1 hj
      obtain ⟨o, d, ho, hg, hd, hds, hlow, _⟩ := factsB_op hB hjn
      obtain rfl : oj = o := by have : l[j]? = some oj := by simpa using hoj
                                rw [this] at ho; exact Option.some.inj ho
      have hju' : listed.getD j false = false := getD_both hju
      have hlin : ∀ k c', k < n → lin.getD k none = some c' → (∀ c, c < n → apps.getD c false = true → c = c' ∨ c = k ∨ pathB l n c c' = true ∨ pathB l n k c = true) ∧ (∀ i o, i < n → l[i]? = some o → ∀ e ∈ o.after, Region.binds .any e = true → e.on = k → c' = i ∨ pathB l n c' i = true) := by
        intro k c' hk hkc
        unfold linB at hL
        have h1 := List.all_eq_true.1 hL k (List.mem_range.2 hk)
        rw [hkc] at h1
        simp only [Bool.and_eq_true] at h1
        refine ⟨fun c hc ha => ?_, fun i o hi ho e he hb hek => ?_⟩
        · have h2 := List.all_eq_true.1 h1.1 c (List.mem_range.2 hc)
          simp only [ha, Bool.not_true, Bool.false_or, Bool.or_eq_true, beq_iff_eq] at h2
          rcases h2 with ((h2 | h2) | h2) | h2
          · exact .inl h2
          · exact .inr (.inl h2)
          · exact .inr (.inr (.inl h2))
          · exact .inr (.inr (.inr h2))
        · have h2 := List.all_eq_true.1 h1.2 i (List.mem_range.2 hi)
          rw [ho] at h2
          have h3 := Array.all_eq_true'.1 h2 e he
          simp only [hb, hek, Bool.not_true, Bool.false_or, beq_self_eq_true, Bool.or_eq_true, beq_iff_eq] at h3
          exact h3
      have huse : ∀ e ∈ oj.after, Region.binds .any e = true → live lin listed e.on := by
        intro e he hb c' hc'
        have hen : e.on < n := by have := hlow e he hb; omega
        rcases (hlin e.on c' hen hc').2 j oj hjn ho e he hb rfl with h | h
        · rw [h]; exact hju'
        · cases hx : listed.getD c' false with
          | false => rfl
          | true => rw [path_closed hh n c' j h hx] at hju'; cases hju'
      have hkeep : ∀ w', (if apps.getD j false = true then Gr wb Tk w w' else New w w') → ∀ k u, k < n → k ≠ j → listed.getD k false = true → live lin (listed.setIfInBounds j true) k → F k u w → F k u w' := by
        intro w' hR k u hk hkj hkl hkv hfk
        by_cases ha : apps.getD j false = true
        · rw [if_pos ha] at hR
          cases hc : lin.getD k none with
          | none => exact hG k u w w' hc inv.new hR hfk
          | some c' =>
            exfalso
            have hcv := hkv c' hc
            rcases (hlin k c' hk hc).1 j hjn ha with h | h | h | h
            · subst h; simp [show j < listed.size by omega] at hcv
            · exact hkj h.symm
            · have h1 := path_ready hh h hj
              have h2 := getD_set_true (i := j) h1
              rw [h2] at hcv; cases hcv
            · rw [path_closed hh n k j h hkl] at hju'; cases hju'
        · rw [if_neg ha] at hR
          exact hF k u w w' hR hfk
      have halw : ∀ w', (if apps.getD j false = true then Gr wb Tk w w' else New w w') → I w' := by
        intro w' hR
        split at hR
        · exact hIG w w' inv.new hR inv.alw
        · exact hIN w w' hR inv.alw
      have hnew : ∀ w', (if apps.getD j false = true then Gr wb Tk w w' else New w w') → New wb w' := by
        intro w' hR
        split at hR
        · exact hR.new inv.new
        · exact inv.new.trans hR
      have hfirst : firstB l n apps j = true → J w := by
        intro hfb
        refine inv.init (fun c hc hac => ?_)
        have h1 := List.all_eq_true.1 hfb c (List.mem_range.2 hc)
        simp only [hac, Bool.not_true, Bool.false_or, Bool.or_eq_true, beq_iff_eq] at h1
        rcases h1 with h1 | h1
        · rw [h1]; exact hju'
        · cases hx : listed.getD c false with
          | false => rfl
          | true => rw [path_closed hh n c j h1 hx] at hju'; cases hju'
      have hinit : ∀ w', (if apps.getD j false = true then Gr wb Tk w w' else New w w') → (∀ c, c < n → apps.getD c false = true → (listed.setIfInBounds j true).getD c false = false) → J w' := by
        intro w' hR hno
        by_cases ha : apps.getD j false = true
        · have := hno j hjn ha
          simp [show j < listed.size by omega] at this
        · rw [if_neg ha] at hR
          refine hJ w w' hR (inv.init (fun c hc hac => ?_))
          have h1 := hno c hc hac
          by_cases hjc : j = c
          · subst hjc; exact absurd hac ha
          · rwa [getD_set_ne false hjc] at h1
      unfold wpOp
      simp only [hoj]
      rcases hstep j oj hjn ho a w inv.new inv.alw hfirst inv.defers (fun t ht => (by rw [inv.other t (fun k hk hkt => absurd hkt (ht k hk))])) (fun e he hb d' hd' => inv.fact e.on d' (by have := hlow e he hb; omega) (hall e he hb) (huse e he hb) hd') with ⟨hwt, hs⟩ | ⟨hwt, hs⟩
      · rw [if_pos hwt]
        refine .inl (Oper.wp_mono (fun a' w' hk => ?_) hs)
        obtain ⟨hw, v, rfl, hf⟩ := hk
        refine ih _ _ _ (hh.set hj hjn) ?_ (inv.set hB hjn hsz ho hd (hnew _ hw) (halw _ hw) (hinit _ hw) hf (hkeep _ hw))
        have := count_set (fun i => listed.getD i true == false) (fun i => (listed.setIfInBounds j true).getD i true == false) j (by simp [hju]) (by simp [show j < listed.size by omega]) (fun k hk => by
          simp only [getD_set_ne true (Ne.symm hk)]) n hjn
        omega
      · rw [if_neg (by rw [hwt]; simp)]
        refine ih _ _ _ (hh.set hj hjn) ?_ (inv.set hB hjn hsz ho hd inv.new inv.alw (fun hno => inv.init (fun c hc hac => by
          have h1 := hno c hc hac
          by_cases hjc : j = c
          · subst hjc; exact hju'
          · rwa [getD_set_ne false hjc] at h1)) hs (fun _ _ _ _ _ _ h => h))
        have := count_set (fun i => listed.getD i true == false) (fun i => (listed.setIfInBounds j true).getD i true == false) j (by simp [hju]) (by simp [show j < listed.size by omega]) (fun k hk => by
          simp only [getD_set_ne true (Ne.symm hk)]) n hjn
        omega
  have h0 := key n (Array.replicate l.toArray.size false) a0 { w0 with drawn := w0.drawn + 1 }
    ⟨by simp, fun j oj _ hl => (by rw [getD_replicate_false] at hl; cases hl), fun t _ ht => getD_in (by simpa using ht) (getD_replicate_false _ _)⟩
    (by
      have : ∀ i ∈ List.range n, ((fun i => (Array.replicate l.toArray.size false).getD i true == false) i) = true := fun i hi => by
        have := List.mem_range.1 hi
        have h2 : i < l.toArray.size := by simp; omega
        have h3 := getD_in (listed := Array.replicate l.toArray.size false) (i := i) (by simpa using h2) (getD_replicate_false _ _)
        show ((Array.replicate l.toArray.size false).getD i true == false) = true
        rw [h3]; rfl
      rw [List.countP_eq_length.2 this]; simp)
    ⟨hwb.drew, hIN _ _ (New.refl w0).drew hI0, fun _ => hJ _ _ (New.refl w0).drew hJ0, rfl, rfl, fun _ _ => rfl, fun j d hj hl _ _ => (by rw [getD_replicate_false] at hl; cases hl)⟩
  rw [show n + (l.length - n) = l.toArray.size by simp; omega] at h0
  exact h0
def FStep (P : Program) (l : List Oper) (n : Nat) (Fs : List Fact) (Tk : TypeId) (apps : List Bool) (J I : World → Prop) (a0 : Act) (w0 : World) (Q : Exit → Act → World → Prop) (i : Nat) (o : Oper) (ap : Bool) (F : Fact) : Prop :=
  ∀ a w, New w0 w → I w → (firstB l n apps i = true → J w) → Old l n a0 a → Kept l Fs o a w → (Region.wanted o (yielded l.toArray a.tmps) = true ∧ o.wp P a w (fun a' w' => (if ap = true then Gr w0 Tk w w' else New w w') ∧ ∃ v, a' = a.put o.dst v ∧ F v w') Q) ∨ (Region.wanted o (yielded l.toArray a.tmps) = false ∧ F undef w)
def StepAll (P : Program) (l : List Oper) (n : Nat) (Fs : List Fact) (Tk : TypeId) (apps : List Bool) (J I : World → Prop) (a0 : Act) (w0 : World) (Q : Exit → Act → World → Prop) : Nat → List Oper → List Bool → List Fact → Prop
  | k, o :: os, ap :: aps, F :: Rs => FStep P l n Fs Tk apps J I a0 w0 Q k o ap F ∧ StepAll P l n Fs Tk apps J I a0 w0 Q (k + 1) os aps Rs
  | _, [], [], [] => True
  | _, _, _, _ => False
theorem StepAll.get {Fs : List Fact} : ∀ (k : Nat) (os : List Oper) (aps : List Bool) (Rs : List Fact), StepAll P l n Fs Tk apps J I a0 wb Q k os aps Rs → os.length = Rs.length ∧ ∀ i o, os[i]? = some o → FStep P l n Fs Tk apps J I a0 wb Q (k + i) o (aps.getD i false) (Rs.getD i fun _ _ => True)
  | k, [], [], [], _ => ⟨rfl, fun i o h => by simp at h⟩
  | k, o :: os, ap :: aps, F :: Rs, h => by
    obtain ⟨h1, h2⟩ := StepAll.get (k + 1) os aps Rs h.2
    refine ⟨by simp [h1], fun i o' ho => ?_⟩
    cases i with
    | zero => have : o = o' := by simpa using ho
              subst this; simpa using h.1
    | succ i =>
      have h3 := h2 i o' (by simpa using ho)
      rw [show k + 1 + i = k + (i + 1) by omega] at h3
      simpa using h3
  | _, [], [], _ :: _, h => h.elim
  | _, [], _ :: _, _, h => h.elim
  | _, _ :: _, [], _, h => h.elim
  | _, _ :: _, _ :: _, [], h => h.elim
/-- The rule in the form that a walk uses: wb is a world that the region's world is new to (rows of the call's own lie above it); J holds until the first append. -/
theorem wp_facts {id : Nat} (Tk : TypeId) (wb : World) (J I : World → Prop) (Fs : List Fact) (lin : List (Option Nat)) (apps : List Bool) (hm : P.follows .mixedOrders = true) (hB : factsB l Fs.length a0.tmps.size = true) (hL : linB l Fs.length lin apps = true) (hwb : New wb w0) (hJ0 : J w0) (hJ : ∀ w w', New w w' → J w → J w') (hI0 : I w0) (hIN : ∀ w w', New w w' → I w → I w') (hIG : ∀ w w', New wb w → Gr wb Tk w w' → I w → I w') (hF : StableAll Fs) (hG : StableGAll wb Tk lin Fs)
    (hstep : StepAll P l Fs.length Fs Tk apps J I a0 wb Q 0 (l.take Fs.length) apps Fs)
    (hend : ∀ w, New wb w → I w → RC.EndAll w Fs.length (fun vs => wpList P l.toArray Q (l.drop Fs.length) (putAll a0 (l.take Fs.length) vs) w) lin Fs []) :
    (Code.region id l.toArray true).wp P Q a0 w0 := by
  obtain ⟨h1, h2⟩ := StepAll.get _ _ _ _ hstep
  refine wp_region_facts Fs.length (fun i => Fs.getD i fun _ _ => True) lin apps Tk hm hB hL (fun i v w w' hn hf => hF.get i v w w' hn hf) hwb hJ0 hJ hI0 hIN hIG (fun i v w w' hl hw hg hf => hG.get i hl v w w' hw hg hf) (fun i o hi ho a w hw hi9 hj _ hold hdep => ?_) (fun vs w hl hw hi9 hf => ?_)
  · have h3 := h2 i o (by rw [List.getElem?_take, if_pos hi]; exact ho)
    rw [Nat.zero_add] at h3
    refine h3 a w hw hi9 hj (fun t ht => hold t (fun j hj => ?_)) (fun j d hj hd => ?_)
    · have := List.all_eq_true.1 ht j (List.mem_range.2 hj)
      simpa using this
    · obtain ⟨e, he, hb⟩ := Array.any_eq_true'.1 hj
      simp only [Bool.and_eq_true, beq_iff_eq] at hb
      obtain ⟨hb1, rfl⟩ := hb
      exact hdep e he hb1 d hd
  · simpa using RC.EndAll.get lin Fs [] vs (hend w hw hi9) hl hf
end
end RI
end Go.Proofs.YteielmihlfakgaaGreatDoor
