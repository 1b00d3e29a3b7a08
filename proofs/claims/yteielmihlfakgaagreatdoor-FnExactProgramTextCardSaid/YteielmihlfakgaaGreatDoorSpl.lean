/- Texts split at a byte, and without their comments: plain facts, no program in sight. -/
import Derived.Lib.Split
import Derived.Lib.CountLaws
import Derived.Lib.Join
import Derived.Lib.IndexMore
import Derived.Lib.SplitLaws
import Derived.Test.YteielmihlfakgaaGreatDoorVA
namespace Go.Proofs.YteielmihlfakgaaGreatDoor
open Go Go.RowKit
set_option linter.unusedVariables false
set_option linter.unusedSimpArgs false
/-- The pieces between the bytes c. -/
def spl (c : UInt8) : List UInt8 → List (List UInt8)
  | [] => [[]]
  | b :: l => if b = c then [] :: spl c l else (b :: (spl c l).headD []) :: (spl c l).tail
theorem spl_ne (c : UInt8) : ∀ l, spl c l ≠ []
  | [] => by simp [spl]
  | b :: l => by rw [spl]; split <;> simp
theorem spl_cons (c : UInt8) (l : List UInt8) : spl c l = (spl c l).headD [] :: (spl c l).tail := by
  cases h : spl c l with
  | nil => exact absurd h (spl_ne c l)
  | cons x r => rfl
theorem spl_none {c : UInt8} : ∀ {l : List UInt8}, c ∉ l → spl c l = [l]
  | [], _ => rfl
  | b :: l, h => by
    rw [spl, if_neg (fun e => h (by simp [e])), spl_none (fun e => h (by simp [e]))]; rfl
theorem spl_some {c : UInt8} : ∀ {a r : List UInt8}, c ∉ a → spl c (a ++ c :: r) = a :: spl c r
  | [], r, _ => by rw [List.nil_append, spl, if_pos rfl]
  | b :: a, r, h => by
    rw [List.cons_append, spl, if_neg (fun e => h (by simp [e])), spl_some (fun e => h (by simp [e]))]; rfl
theorem idx_one (c : UInt8) : ∀ l, (Lib.index l [c] = -1 ∧ c ∉ l) ∨ ∃ a r, l = a ++ c :: r ∧ c ∉ a ∧ Lib.index l [c] = (a.length : Int)
  | [] => .inl ⟨rfl, by simp⟩
  | b :: l => by
    rw [Lib.index]
    by_cases h : b = c
    · subst h
      exact .inr ⟨[], l, rfl, by simp, by simp [List.isPrefixOf]⟩
    · have hp : ([c].isPrefixOf (b :: l)) = false := by simp [List.isPrefixOf]; exact fun e => h e.symm
      rw [hp]
      rcases idx_one c l with ⟨h1, h2⟩ | ⟨a, r, rfl, h2, h3⟩
      · exact .inl ⟨by simp [h1], (fun hh => by rcases List.mem_cons.1 hh with e | e; exact h e.symm; exact h2 e)⟩
      · refine .inr ⟨b :: a, r, rfl, (fun hh => by rcases List.mem_cons.1 hh with e | e; exact h e.symm; exact h2 e), ?_⟩
        rw [h3]
        have : ((a.length : Int) == -1) = false := by simp
        simp [this]
theorem splitK_spl (c : UInt8) : ∀ (n : Nat) (l : List UInt8), l.length ≤ n → Lib.splitK [c] 0 (Lib.count l [c]) l = spl c l := by
  intro n
  induction n with
  | zero =>
    intro l h
    have : l = [] := List.eq_nil_of_length_eq_zero (by omega)
    subst this
    rcases idx_one c [] with ⟨h1, _⟩ | ⟨a, r, h1, _⟩
    · rw [Lib.count_miss h1]; rfl
    · simp at h1
  | succ n ih =>
    intro l h
    rcases idx_one c l with ⟨h1, h2⟩ | ⟨a, r, rfl, h2, h3⟩
    · rw [Lib.count_miss h1, spl_none h2]; rfl
    · have hd : (a ++ c :: r).drop (a.length + [c].length) = r := by simp
      rw [Lib.count_hit (by simp) h3, hd, Nat.add_comm, Lib.splitK, h3]
      have hm : ((a.length : Int) == -1) = false := by simp
      rw [hm, if_neg (by simp)]
      simp only [Int.toNat_natCast, Nat.add_zero]
      rw [hd, ih r (by simp at h; omega), spl_some h2]
      simp only [List.take_left']
theorem splitB_spl (c : UInt8) (s : ByteArray) : (Lib.splitB ⟨#[c]⟩ 0 (Lib.countB s ⟨#[c]⟩) s).map (·.data.toList) = spl c s.data.toList := by
  rw [Lib.splitB_data]
  exact splitK_spl c _ _ (Nat.le_refl _)
theorem splitB_len (c : UInt8) (s : ByteArray) : (Lib.splitB ⟨#[c]⟩ 0 (Lib.countB s ⟨#[c]⟩) s).length = Lib.countB s ⟨#[c]⟩ + 1 := Lib.splitB_all ⟨#[c]⟩ (Nat.le_refl 1) 0 _ s rfl
theorem spl_len (c : UInt8) : ∀ l, (spl c l).length ≤ l.length + 1
  | [] => by simp [spl]
  | b :: l => by
    have := spl_len c l
    rw [spl]
    split
    · simp; omega
    · simp; omega
theorem spl_mem_len (c : UInt8) : ∀ l, ∀ x ∈ spl c l, x.length ≤ l.length
  | [], x, h => by simp [spl] at h; subst h; simp
  | b :: l, x, h => by
    rw [spl] at h
    have hh : ((spl c l).headD []).length ≤ l.length := spl_mem_len c l _ (by rw [spl_cons]; simp)
    split at h
    · rcases List.mem_cons.1 h with rfl | h
      · simp
      · have := spl_mem_len c l x h; simp; omega
    · rcases List.mem_cons.1 h with rfl | h
      · simp only [List.length_cons]; omega
      · have := spl_mem_len c l x (by rw [spl_cons]; exact List.mem_cons_of_mem _ h); simp; omega
/-- A line up to its comment. -/
def cutH (l : List UInt8) : List UInt8 := (Lib.cut l [35]).1
theorem tw_all {p : UInt8 → Bool} : ∀ {l : List UInt8}, (∀ x ∈ l, p x = true) → l.takeWhile p = l
  | [], _ => rfl
  | b :: l, h => by rw [List.takeWhile_cons, h b (by simp), if_pos rfl, tw_all (fun x hx => h x (by simp [hx]))]
theorem cut_one (l : List UInt8) (c : UInt8) : (Lib.cut l [c]).1 = l.takeWhile (· != c) := by
  rcases idx_one c l with ⟨h1, h2⟩ | ⟨a, r, rfl, h2, h3⟩
  · rw [Lib.cut, h1, if_neg (by omega)]
    exact (tw_all (fun x hx => by simp; intro e; subst e; exact h2 hx)).symm
  · rw [Lib.cut, h3, if_pos (by omega)]
    simp only [Int.toNat_natCast, List.take_left']
    rw [List.takeWhile_append_of_pos (fun x hx => by simp; intro e; subst e; exact h2 hx)]
    simp
theorem cutH_eq (l : List UInt8) : cutH l = l.takeWhile (· != 35) := cut_one l 35
theorem cutH_len (l : List UInt8) : (cutH l).length ≤ l.length := by rw [cutH_eq]; exact (List.takeWhile_sublist _).length_le
/-- What the reference keeps: behind a comment's sign nothing up to the line's end. -/
def strip : Bool → List UInt8 → List UInt8
  | _, [] => []
  | cm, b :: l => if b = 10 then b :: strip false l else if (cm || b == 35) then strip true l else b :: strip false l
theorem strip_both : ∀ l, strip false l = cutH ((spl 10 l).headD []) ++ Lib.joinTail [10] ((spl 10 l).tail.map cutH) ∧ strip true l = Lib.joinTail [10] ((spl 10 l).tail.map cutH)
  | [] => by simp [strip, spl, cutH_eq, Lib.joinTail]
  | b :: l => by
    obtain ⟨h1, h2⟩ := strip_both l
    by_cases hb : b = 10
    · subst hb
      have e : spl 10 (10 :: l) = [] :: spl 10 l := by rw [spl, if_pos rfl]
      have e2 : Lib.joinTail [10] ((spl 10 l).map cutH) = 10 :: strip false l := by
        rw [spl_cons 10 l, List.map_cons, h1]; simp [Lib.joinTail]
      rw [e, strip, if_pos rfl, strip, if_pos rfl]
      simp only [List.headD_cons, List.tail_cons, e2]
      simp [cutH_eq]
    · have e : spl 10 (b :: l) = (b :: (spl 10 l).headD []) :: (spl 10 l).tail := by rw [spl, if_neg hb]
      rw [e, strip, if_neg hb, strip, if_neg hb]
      simp only [List.headD_cons, List.tail_cons, Bool.false_or, Bool.true_or, if_true]
      refine ⟨?_, h2⟩
      by_cases h35 : b = 35
      · subst h35; simp [cutH_eq, h2]
      · rw [if_neg (by simpa using h35), h1, cutH_eq, cutH_eq]
        simp [List.takeWhile_cons, h35]
theorem strip_join (l : List UInt8) : Lib.join ((spl 10 l).map cutH) [10] = strip false l := by
  rw [(strip_both l).1]
  conv => lhs; rw [spl_cons 10 l]
  rw [List.map_cons, Lib.join_cons]
theorem strip_len : ∀ (cm : Bool) (l : List UInt8), (strip cm l).length ≤ l.length
  | _, [] => by simp [strip]
  | cm, b :: l => by
    have h1 := strip_len false l
    have h2 := strip_len true l
    rw [strip]
    split
    · simp; omega
    · split
      · simp; omega
      · simp; omega
end Go.Proofs.YteielmihlfakgaaGreatDoor
