/- Contracts: the laws' helpers on lists of strings; sizes of lists, said once. -/
import Derived.Test.YteielmihlfakgaaDoorProg
import Derived.Test.YteielmihlfakgaaDoorStrs
import Derived.Test.YteielmihlfakgaaDoorTermS
namespace Go.Proofs.YteielmihlfakgaaDoor
open Go Go.Proofs Go.RowKit
set_option linter.unusedVariables false
set_option linter.unusedSimpArgs false
set_option maxRecDepth 100000
def szFold {α : Type} (f : α → Int → Int) : List α → Int → Int
  | [], l => l
  | x :: xs, l => if f x l < 0 then -1 else szFold f xs (f x l)
def szSl {α : Type} (f : α → Int → Int) (xs : List α) (left : Int) : Int := if left - xs.length < 0 then -1 else szFold f xs (left - xs.length)
theorem szFold_bd {α : Type} {f : α → Int → Int} (hf : ∀ x l, 0 ≤ l → -1 ≤ f x l ∧ f x l ≤ l) : ∀ (xs : List α) (l : Int), 0 ≤ l → -1 ≤ szFold f xs l ∧ szFold f xs l ≤ l
  | [], l, h => by simp [szFold]; omega
  | x :: xs, l, h => by
    have h1 := hf x l h
    rw [szFold]; split
    · omega
    · have := szFold_bd hf xs (f x l) (by omega); omega
theorem szFold_fit {α : Type} {f : α → Int → Int} {fit : α → Prop} (hf : ∀ x l, 0 ≤ l → -1 ≤ f x l ∧ f x l ≤ l) (hfit : ∀ x l, 0 ≤ l → l ≤ 1048576 → 0 ≤ f x l → fit x) : ∀ (xs : List α) (l : Int), 0 ≤ l → l ≤ 1048576 → 0 ≤ szFold f xs l → ∀ x ∈ xs, fit x
  | [], l, h, h', h2, x, hx => by cases hx
  | y :: xs, l, h, h', h2, x, hx => by
    have h1 := hf y l h
    rw [szFold] at h2
    split at h2
    · omega
    · rcases List.mem_cons.1 hx with rfl | hx
      · exact hfit _ l h h' (by omega)
      · exact szFold_fit hf hfit xs _ (by omega) (by omega) h2 x hx
theorem szSl_bd {α : Type} {f : α → Int → Int} (hf : ∀ x l, 0 ≤ l → -1 ≤ f x l ∧ f x l ≤ l) (xs : List α) (left : Int) (h : 0 ≤ left) : -1 ≤ szSl f xs left ∧ szSl f xs left ≤ left ∧ (0 ≤ szSl f xs left → (xs.length : Int) ≤ left) := by
  rw [szSl]; split
  · omega
  · have := szFold_bd hf xs (left - xs.length) (by omega); omega
theorem szSl_fit {α : Type} {f : α → Int → Int} {fit : α → Prop} (hf : ∀ x l, 0 ≤ l → -1 ≤ f x l ∧ f x l ≤ l) (hfit : ∀ x l, 0 ≤ l → l ≤ 1048576 → 0 ≤ f x l → fit x) (xs : List α) (left : Int) (h : 0 ≤ left) (h' : left ≤ 1048576) (h2 : 0 ≤ szSl f xs left) : ∀ x ∈ xs, fit x := by
  rw [szSl] at h2; split at h2
  · omega
  · exact szFold_fit hf hfit xs _ (by omega) (by omega) h2
theorem szT_bd (s : ByteArray) (l : Int) (h : 0 ≤ l) : -1 ≤ szT s l ∧ szT s l ≤ l := by rw [szT]; split <;> omega
def okS (s : ByteArray) : Prop := s.size ≤ 9223372036854775807
def fitS (s : ByteArray) : Prop := s.size ≤ 1048576
theorem szT_fit (s : ByteArray) (l : Int) (h : 0 ≤ l) (h' : l ≤ 1048576) (h2 : 0 ≤ szT s l) : fitS s := by
  rw [szT] at h2; split at h2
  · omega
  · rw [fitS]; omega
end Go.Proofs.YteielmihlfakgaaDoor
