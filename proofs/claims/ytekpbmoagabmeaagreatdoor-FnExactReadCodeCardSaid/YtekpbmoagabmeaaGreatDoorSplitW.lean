/- Contracts: strings.Split at one byte (as in TrafRW, for seats without a traffic). -/
import Derived.Test.YtekpbmoagabmeaaGreatDoorProg
import Derived.Test.YtekpbmoagabmeaaGreatDoorNumW
import Derived.Test.YtekpbmoagabmeaaGreatDoorStripW
import Derived.Test.YtekpbmoagabmeaaGreatDoorStrs
import Derived.Test.YtekpbmoagabmeaaGreatDoorShelf
import Derived.Test.YtekpbmoagabmeaaGreatDoorLibW
namespace Go.Proofs.YtekpbmoagabmeaaGreatDoor
open Go Go.Proofs Go.RowKit
set_option linter.unusedVariables false
set_option linter.unusedSimpArgs false
set_option maxRecDepth 100000
theorem own_cellsB {w : World} {base b n : Nat} {e : TypeId} {cs : Array Value} (h : base ≤ w.heap.size) (hb : b = w.heap.size) (hn : n = cs.size) (hm : cs.size ≤ 100000000) : (w.alloc (.cells cs e)).ownsRow base e 1 (.slice (some ⟨b, 0, none⟩) n n) n cs.toList := by
  subst hb hn
  refine ⟨by simp, .inr ⟨w.heap.size, cs.size, cs, rfl, h, Array.getElem?_push_size, Nat.le_refl _, by unfold maxLen; omega, by simp, by rw [Nat.mul_one, List.take_of_length_le (by simp)]⟩⟩
theorem iSplit_any (s : ByteArray) (c : UInt8) (w : World) (hs : s.size ≤ 1048576) (hm : ML w) :
    Calls Tryz.prog 29 #[.string s, .string ⟨#[c]⟩] w fun e w' => ∃ r, e = .returned r ∧ New w w' ∧ w'.ownsRow w.heap.size 9 1 r (spl c s.data.toList).length ((spl c s.data.toList).map (fun y => Value.string (strL y))) := by
  obtain ⟨m, hm⟩ := hm
  have hlen : s.data.toList.length = s.size := by rw [Array.length_toList]; rfl
  have HSP := Tryz.strings_Split s ⟨#[c]⟩ m w (by omega) hm (Nat.le_refl 1)
  have hcl := splitB_len c s
  rw [← hcl] at HSP
  have hsp := splitB_spl c s
  generalize Lib.splitB ⟨#[c]⟩ 0 (Lib.countB s ⟨#[c]⟩) s = L at hcl hsp HSP
  have hL : L = (spl c s.data.toList).map strL := by
    rw [← hsp, List.map_map]
    exact (List.map_id L).symm.trans (List.map_congr_left fun x _ => (strL_back x).symm)
  have hwl := spl_len c s.data.toList
  have e : (L.map Value.string).toArray.toList = (spl c s.data.toList).map (fun y => Value.string (strL y)) := by
    rw [List.toList_toArray, hL, List.map_map]; rfl
  have hz : (L.map Value.string).toArray.size = L.length := by simp
  have hll : L.length = (spl c s.data.toList).length := by rw [hL]; simp
  refine HSP.mono ?_
  rintro _ _ ⟨rfl, rfl⟩
  refine ⟨_, rfl, (New.refl w).alloc _, ?_⟩
  have h := own_cellsB (w := w) (base := w.heap.size) (e := 9) (cs := (L.map Value.string).toArray) (Nat.le_refl _) rfl rfl (by rw [hz, hll]; omega)
  rw [e, hz, hll] at h
  rw [hll]; exact h
end Go.Proofs.YtekpbmoagabmeaaGreatDoor
