/- Bytes collected, and turned to a string. -/
import Derived.Laws.IdiomStrings
import Derived.Laws.BytesArg
import Derived.Laws.AppendOwn
import Derived.Lib.Join
import Derived.StillTail
import Derived.Test.YteielmihlfakgaaGreatDoorProg
import Derived.Test.YteielmihlfakgaaGreatDoorNumW
import Derived.Test.YteielmihlfakgaaGreatDoorVA
import Derived.Test.YteielmihlfakgaaGreatDoorSpl
import Derived.Test.YteielmihlfakgaaGreatDoorLibW
import Derived.Test.YteielmihlfakgaaGreatDoorShelf
import Derived.Test.YteielmihlfakgaaGreatDoorVB
import Derived.Test.YteielmihlfakgaaGreatDoorUG
import Derived.Test.YteielmihlfakgaaGreatDoorUD
namespace Go.Proofs.YteielmihlfakgaaGreatDoor
open Go Go.Proofs Go.RowKit
set_option linter.unusedVariables false
set_option linter.unusedSimpArgs false
set_option maxRecDepth 100000
def byteC (b : UInt8) : Value := .int .u8 (b.toNat : Int)
theorem infoU8 : (Tryz.prog.info? 5).map (fun i => (i.zero, i.size, i.bytes)) = some (some (.int .u8 0), 1, 1) := by kernel_rfl
theorem conv_own {w : World} {base : Nat} {v : Value} {l : List UInt8} {n : Nat} (h : w.ownsRow base 5 1 v n (l.map byteC)) : (convert 22 9 v).run Tryz.prog w = .ok (.string (strL l)) w := by
  have hn : n = l.length := by have := h.1; simpa using this.symm
  subst hn
  rcases h.2 with ⟨rfl, h0⟩ | ⟨g, cap, cur, rfl, _⟩
  · have hl : l = [] := List.eq_nil_of_length_eq_zero h0
    subst hl
    rw [run_convert_bytes_nil (P := Tryz.prog) w 22 5 Tryz.underlying22 Tryz.underlying5 0 0 9 Tryz.underlying9]
    rfl
  · exact run_convert_bytes_back (P := Tryz.prog) w 22 9 5 ⟨g, 0, none⟩ cap l Tryz.underlying22 Tryz.underlying5 Tryz.underlying9 (fun j hj => by
      have e : (⟨g, 0, none⟩ : Addr).add j = ⟨g, j, none⟩ := by unfold Addr.add; split <;> simp_all
      rw [e, h.cellAt j (by simpa using hj)]
      simp [byteC, hj])
end Go.Proofs.YteielmihlfakgaaGreatDoor
/- Contracts: texts without their comments. -/
namespace Go.Proofs.YteielmihlfakgaaGreatDoor
open Go Go.Proofs Go.RowKit
set_option linter.unusedVariables false
set_option linter.unusedSimpArgs false
set_option maxRecDepth 100000
def stripR (s : ByteArray) : ByteArray × Int := if (6000 : Int) < s.size then (⟨#[]⟩, 3) else (strL (strip false s.data.toList), 0)
/-- What is left to keep. -/
theorem strip_step {s : ByteArray} {k : Nat} (h : k < s.size) (cm : Bool) : strip cm (s.data.toList.drop k) = if s[k] = 10 then s[k] :: strip false (s.data.toList.drop (k + 1)) else if (cm || s[k] == 35) then strip true (s.data.toList.drop (k + 1)) else s[k] :: strip false (s.data.toList.drop (k + 1)) := by
  rw [drop_at s k h, strip]
end Go.Proofs.YteielmihlfakgaaGreatDoor
/- Contracts: strings.Split at one byte (as in TrafRW, for seats without a traffic). -/
namespace Go.Proofs.YteielmihlfakgaaGreatDoor
open Go Go.Proofs Go.RowKit
set_option linter.unusedVariables false
set_option linter.unusedSimpArgs false
set_option maxRecDepth 100000
theorem own_cellsB {w : World} {base b n : Nat} {e : TypeId} {cs : Array Value} (h : base ≤ w.heap.size) (hb : b = w.heap.size) (hn : n = cs.size) (hm : cs.size ≤ 100000000) : (w.alloc (.cells cs e)).ownsRow base e 1 (.slice (some ⟨b, 0, none⟩) n n) n cs.toList := by
  subst hb hn
  refine ⟨by simp, .inr ⟨w.heap.size, cs.size, cs, rfl, h, Array.getElem?_push_size, Nat.le_refl _, by unfold maxLen; omega, by simp, by rw [Nat.mul_one, List.take_of_length_le (by simp)]⟩⟩
theorem iSplit_any (s : ByteArray) (c : UInt8) (w : World) (hs : s.size ≤ 1048576) (hm : ML w) :
    Calls Tryz.prog 25 #[.string s, .string ⟨#[c]⟩] w fun e w' => ∃ r, e = .returned r ∧ New w w' ∧ w'.ownsRow w.heap.size 9 1 r (spl c s.data.toList).length ((spl c s.data.toList).map (fun y => Value.string (strL y))) := by
  obtain ⟨m, hm⟩ := hm
  have hlen : s.data.toList.length = s.size := by rw [Array.length_toList]; rfl
  have HSP := Tryz.strings_Split s ⟨#[c]⟩ m w (by omega) hm (Nat.le_refl 1)
  have hcl := splitB_len c s
  rw [← hcl] at HSP
  have hsp := splitB_spl c s
  generalize Lib.splitB ⟨#[c]⟩ 0 (Lib.countB s ⟨#[c]⟩) s = L at hcl hsp HSP
  have hL : L = (spl c s.data.toList).map strL := by
    rw [← hsp, List.map_map]
    exact (List.map_id L).symm.trans (List.map_congr_left fun x _ => (strL_back x).symm)
  have hwl := spl_len c s.data.toList
  have e : (L.map Value.string).toArray.toList = (spl c s.data.toList).map (fun y => Value.string (strL y)) := by
    rw [List.toList_toArray, hL, List.map_map]; rfl
  have hz : (L.map Value.string).toArray.size = L.length := by simp
  have hll : L.length = (spl c s.data.toList).length := by rw [hL]; simp
  refine HSP.mono ?_
  rintro _ _ ⟨rfl, rfl⟩
  refine ⟨_, rfl, (New.refl w).alloc _, ?_⟩
  have h := own_cellsB (w := w) (base := w.heap.size) (e := 9) (cs := (L.map Value.string).toArray) (Nat.le_refl _) rfl rfl (by rw [hz, hll]; omega)
  rw [e, hz, hll] at h
  rw [hll]; exact h
end Go.Proofs.YteielmihlfakgaaGreatDoor
/- Contracts: lists of numbers as texts. -/
namespace Go.Proofs.YteielmihlfakgaaGreatDoor
open Go Go.Proofs Go.RowKit
set_option linter.unusedVariables false
set_option linter.unusedSimpArgs false
set_option maxRecDepth 100000
/-- Numbers with commas between them. -/
def jn (xs : List Int) : List UInt8 := Lib.join (xs.map fun x => Lib.decDigits x.toNat) [44]
theorem join_snoc (l : List (List UInt8)) (x sep : List UInt8) : Lib.join (l ++ [x]) sep = Lib.join l sep ++ ((if l.isEmpty then [] else sep) ++ x) := by
  cases l with
  | nil => simp [Lib.join_nil, Lib.join_one]
  | cons y l =>
    rw [List.cons_append, Lib.join_cons, Lib.join_cons]
    simp [Lib.joinTail]
theorem jn_next {xs : List Int} {k : Nat} (h : k < xs.length) : jn (xs.take (k + 1)) = jn (xs.take k) ++ ((if k = 0 then [] else [44]) ++ Lib.decDigits xs[k].toNat) := by
  rw [jn, List.take_succ_eq_append_getElem h, List.map_append, List.map_cons, List.map_nil, join_snoc]
  have e : ((xs.take k).map fun x => Lib.decDigits x.toNat).isEmpty = decide (k = 0) := by
    cases k with
    | zero => rfl
    | succ k => cases xs with
      | nil => simp at h
      | cons a r => rfl
  rw [e]
  simp [jn]
def NumsOk (xs : List Int) : Prop := ∀ x ∈ xs, 0 ≤ x ∧ x ≤ 9223372036854775807
theorem jn_len : ∀ {xs : List Int} (h : NumsOk xs) (k : Nat), k ≤ xs.length → (jn (xs.take k)).length ≤ 20 * k := by
  intro xs h k
  induction k with
  | zero => intro _; simp [jn, Lib.join_nil]
  | succ k ih =>
    intro hk
    have hx := h xs[k] (List.getElem_mem _)
    have := dec_len 18 xs[k].toNat (by omega)
    rw [jn_next (by omega), List.length_append, List.length_append]
    have := ih (by omega)
    split <;> simp <;> omega
theorem infoStrT : (Tryz.prog.info? 9).map (fun i => (i.zero, i.size, i.bytes)) = some (some (.string ⟨#[]⟩), 1, 16) := by kernel_rfl
set_option maxHeartbeats 1000000 in
theorem iJoin_any (v : Value) (xs : List Int) (w : World) (hv : RdI w v xs) (hx : NumsOk xs) (h1 : 1 ≤ xs.length) (h2 : xs.length ≤ 1000) (hp : PW w) :
    Calls Tryz.prog 66 #[v, .string ⟨#[44]⟩] w fun e w' => e = .returned (.string (strL (jn xs))) ∧ New w w' := by
  obtain ⟨a, cap, rfl, hm, HC⟩ := hv.open
  obtain ⟨i0, hi, hz0, hz1, hz2⟩ := info_parts infoStrT
  have HP := Lib.hid hp
  have HX := Lib.hid hx
  have HD := Lib.hid (fun (x : Int) (h : 0 ≤ x ∧ x ≤ 9223372036854775807) (w0 : World) (hw : New w w0) => by
    have h1 := iDecimal_any x w0 (by omega) h.2 (HP.out.new hw)
    rw [itoa_nn h.1] at h1
    exact h1)
  clear hp hx
  go_enter Tryz.func66, Tryz.ntmps66
  go_wp2_with (at_make; refine wpList_make_full _ rfl _ _ 39 rfl w.heap.size 9 i0 (.string ⟨#[]⟩) 1 Tryz.underlying39 hi hz0 hz1 .i64 .i64 _ _ xs.length rfl rfl rfl rfl (by rw [hz2]; omega) (by unfold maxLen; omega) (Nat.le_refl _) ?_; intro w1 hown hgr)
  have b1 : New w w1 := (New.refl w).grown hgr (fun k hk => by cases hk)
  have hown1 : w1.ownsRow w.heap.size 9 1 (.slice (some ⟨w.heap.size, 0, none⟩) xs.length xs.length) xs.length (((xs.take 0).map (fun x => Value.string (strL (Lib.decDigits x.toNat)))) ++ List.replicate (xs.length - 0) (.string ⟨#[]⟩)) := by
    have e : (madeCells (Value.string ⟨#[]⟩).cells (xs.length * 1)).toList = ((xs.take 0).map (fun x => Value.string (strL (Lib.decDigits x.toNat)))) ++ List.replicate (xs.length - 0) (.string ⟨#[]⟩) := by
      rw [show (Value.string ⟨#[]⟩).cells = #[.string ⟨#[]⟩] from rfl, toList_madeCells_one]; simp
    rw [← e]; exact hown
  clear hown hgr hz2 hz1 hz0 hi
  go_wp2_with fail
  go_loopw [13] (fun i wr => ∃ k : Nat, k ≤ xs.length ∧ i = .int .i64 k ∧ New w wr ∧ wr.ownsRow w.heap.size 9 1 (.slice (some ⟨w.heap.size, 0, none⟩) xs.length xs.length) xs.length (((xs.take k).map (fun x => Value.string (strL (Lib.decDigits x.toNat)))) ++ List.replicate (xs.length - k) (.string ⟨#[]⟩))) (fun i _ => xs.length - (intOf i).toNat)
  case atStart => exact ⟨0, Nat.zero_le _, rfl, b1, hown1⟩
  case round =>
    obtain ⟨k, hk, rfl, hb, hown⟩ := hrel
    clear b1 hown1
    by_cases hlt : k < xs.length
    · obtain ⟨b, off, rfl, hbl, hx⟩ := HC.out wr hb k hlt
      have hxk := HX.out xs[k] (List.getElem_mem hlt)
      clear hv
      go_wp2_with fail
      refine (HD.out xs[k] hxk _ (by repeat (first | with_reducible exact New.refl _ | with_reducible assumption | with_reducible refine New.drew ?_ | with_reducible refine New.drewN ?_ _ | with_reducible refine New.alloc ?_ _ | with_reducible refine New.setCell ?_ (by first | (simp; done) | (simp; omega) | omega) _ | with_reducible refine New.trans ?_ (by with_reducible assumption)))).mono ?_; rintro e w2 ⟨rfl, b2⟩
      have hown2 := own_new hown b2
      have hd : w2.cell? ⟨w.heap.size, k, none⟩ = some (.string ⟨#[]⟩) := by rw [hown2.cellAt k (by omega)]; exact row_at _ _ _ _ hlt
      have hfz := hown2.frozenAt k
      have hst := Lib.hid (hown2.stored k (.string (strL (Lib.decDigits xs[k].toNat)))).1
      rw [set_next _ _ _ _ hlt] at hst
      clear hown
      go_wp2_with fail
      go_roundw
      case rel => exact ⟨k + 1, by omega, by go_num, (hb.trans b2).setCell (Nat.le_refl _) _, hst.out⟩
      case measure => simp [intOf]; omega
    · obtain rfl : k = xs.length := by omega
      rw [List.take_length, Nat.sub_self, List.replicate_zero, List.append_nil] at hown
      have hlen := jn_len HX.out xs.length (Nat.le_refl _)
      rw [List.take_length] at hlen
      have HJ := Tryz.strings_Join w.heap.size 0 xs.length (xs.map fun x => strL (Lib.decDigits x.toNat)) ⟨#[44]⟩ wr (fun j x hj => by
        rw [Nat.zero_add]
        have hjl : j < xs.length := by
          have := (List.getElem?_eq_some_iff.1 hj).1
          simpa using this
        rw [hown.cellAt j (by omega)]
        simp only [List.getElem?_map, List.getElem?_eq_getElem hjl, Option.map_some, Option.some.injEq] at hj ⊢
        rw [hj]) (by have := own_block_lt hown _ rfl; exact this.2) (by simp; omega) (by simp) (by
        rw [List.map_map, show ((fun x : ByteArray => x.data.toList) ∘ fun x : Int => strL (Lib.decDigits x.toNat)) = (fun x : Int => Lib.decDigits x.toNat) from funext fun x => strL_list _]
        show (jn xs).length ≤ _
        omega)
      rw [List.map_map, show ((fun x : ByteArray => x.data.toList) ∘ fun x : Int => strL (Lib.decDigits x.toNat)) = (fun x : Int => Lib.decDigits x.toNat) from funext fun x => strL_list _, List.length_map] at HJ
      replace HJ := Lib.hid HJ
      replace hown := Lib.hid hown
      go_wp2_with fail
      refine HJ.out.mono ?_; rintro e w3 ⟨rfl, b3⟩
      replace b3 : New wr w3 := b3
      go_wp2_with fail
      go_ret
      exact ⟨rfl, (by repeat (first | with_reducible exact New.refl _ | with_reducible assumption | with_reducible refine New.drew ?_ | with_reducible refine New.drewN ?_ _ | with_reducible refine New.alloc ?_ _ | with_reducible refine New.setCell ?_ (by first | (simp; done) | (simp; omega) | omega) _ | with_reducible refine New.trans ?_ (by with_reducible assumption)))⟩
set_option maxHeartbeats 1000000 in
theorem sL20_any (v : Value) (xs : List Int) (w : World) (hv : RdI w v xs) (hx : NumsOk xs) (h2 : xs.length ≤ 1000) :
    Calls Tryz.prog 41 #[v] w fun e w' => e = .returned (.string (strL (jn xs))) ∧ New w w' := by
  obtain ⟨a, cap, rfl, hm, HC⟩ := hv.open
  have HX := Lib.hid hx
  have HL := Lib.hid (fun (k : Nat) (h : k ≤ xs.length) => jn_len hx k h)
  clear hx
  go_enter Tryz.func41, Tryz.ntmps41
  go_wp2_with fail
  go_loopw [3, 4] (fun t i wr => ∃ k : Nat, k ≤ xs.length ∧ i = .int .i64 k ∧ t = .string (strL (jn (xs.take k))) ∧ New w wr) (fun _ i _ => xs.length - (intOf i).toNat)
  case atStart => exact ⟨0, Nat.zero_le _, rfl, rfl, New.refl _⟩
  case round =>
    obtain ⟨k, hk, rfl, rfl, hb⟩ := hrel
    by_cases hlt : k < xs.length
    · obtain ⟨b, off, rfl, hbl, hx⟩ := HC.out wr hb k hlt
      have hxk := HX.out xs[k] (List.getElem_mem hlt)
      have HT := Lib.hid (jn_next hlt)
      have hz := HL.out k hk
      rw [← strL_size] at hz
      generalize xs[k] = x at hx hxk HT
      obtain ⟨m, rfl⟩ := Int.eq_ofNat_of_zero_le hxk.1
      have HD := Lib.hid (fun (w0 : World) => sDec_any m w0 (by omega))
      have hzd := dec_len 18 m (by omega)
      rw [← strL_size] at hzd
      clear hv
      by_cases hk0 : k = 0
      · subst hk0
        rw [Nat.add_zero] at hx
        have g1 : ¬ (9223372036854775807 < (strL (jn [])).size + (strL (Lib.decDigits m)).size) := by rw [List.take_zero] at hz; omega
        go_wp2_with fail
        refine (HD.out _).mono ?_; rintro e w2 ⟨rfl, b2⟩
        try with_reducible replace b2 := New.undrawN b2
        try with_reducible replace b2 := New.undraw b2
        obtain ⟨c2, f2⟩ := b2.rules
        have z2 := b2.size
        try simp only [World.size_alloc, World.size_drew, World.heap_drewN, World.size_setCell] at z2
        go_wp2_with fail
        go_roundw
        case rel => exact ⟨1, by omega, by go_num, by rw [HT.out, if_pos trivial, List.take_zero, List.nil_append, Int.toNat_natCast, ← strL_app], (by repeat (first | with_reducible exact New.refl _ | with_reducible assumption | with_reducible refine New.drew ?_ | with_reducible refine New.drewN ?_ _ | with_reducible refine New.alloc ?_ _ | with_reducible refine New.setCell ?_ (by first | (simp; done) | (simp; omega) | omega) _ | with_reducible refine New.trans ?_ (by with_reducible assumption)))⟩
        case measure => simp [intOf]; omega
      · have hk1 : (0 : Int) < (k : Int) := by omega
        have g1 : ¬ (9223372036854775807 < (strL (jn (xs.take k))).size + 1) := by omega
        have g2 : ¬ (9223372036854775807 < (strL (jn (xs.take k))).size + 1 + (strL (Lib.decDigits m)).size) := by omega
        go_wp2_with fail
        refine (HD.out _).mono ?_; rintro e w2 ⟨rfl, b2⟩
        try with_reducible replace b2 := New.undrawN b2
        try with_reducible replace b2 := New.undraw b2
        obtain ⟨c2, f2⟩ := b2.rules
        have z2 := b2.size
        try simp only [World.size_alloc, World.size_drew, World.heap_drewN, World.size_setCell] at z2
        go_wp2_with fail
        go_roundw
        case rel => exact ⟨k + 1, by omega, by go_num, by rw [HT.out, if_neg hk0, Int.toNat_natCast, ← strL_app, ← strL_app, ← ByteArray.append_assoc]; rfl, (by repeat (first | with_reducible exact New.refl _ | with_reducible assumption | with_reducible refine New.drew ?_ | with_reducible refine New.drewN ?_ _ | with_reducible refine New.alloc ?_ _ | with_reducible refine New.setCell ?_ (by first | (simp; done) | (simp; omega) | omega) _ | with_reducible refine New.trans ?_ (by with_reducible assumption)))⟩
        case measure => simp [intOf]; omega
    · obtain rfl : k = xs.length := by omega
      rw [List.take_length] at *
      go_wp2_with fail
      go_ret
      exact ⟨rfl, (by repeat (first | with_reducible exact New.refl _ | with_reducible assumption | with_reducible refine New.drew ?_ | with_reducible refine New.drewN ?_ _ | with_reducible refine New.alloc ?_ _ | with_reducible refine New.setCell ?_ (by first | (simp; done) | (simp; omega) | omega) _ | with_reducible refine New.trans ?_ (by with_reducible assumption)))⟩
end Go.Proofs.YteielmihlfakgaaGreatDoor
/- Contracts: is a state possible, is a block faulty. -/
namespace Go.Proofs.YteielmihlfakgaaGreatDoor
open Go Go.Proofs Go.RowKit
set_option linter.unusedVariables false
set_option linter.unusedSimpArgs false
set_option maxRecDepth 100000
def canB (k : Int) (s : ByteArray) (n a b c : Int) : Bool := isBlk k s n && posB k n a b c
/-- The code of a block and a state. -/
def canCode (k : Int) (s : ByteArray) (n a b c : Int) : Int := if isBlk k s n = true then (if posB k n a b c = true then 0 else 2) else 1
def faultyOf (k : Int) (s : ByteArray) (n a b c : Int) : Bool := canB k s n a b c && c == 1
theorem pos_pair {k n a b c : Int} (h : posB k n a b c = true) (hc : c = 1) : k = 12 := by
  subst hc
  unfold posB at h
  split at h
  · simp at h
  · split at h
    · simp at h
    · split at h
      · assumption
      · simp at h
end Go.Proofs.YteielmihlfakgaaGreatDoor
/- Pointers to known cells; numbers laid. No program in sight. -/
namespace Go.Proofs.YteielmihlfakgaaGreatDoor
open Go Go.RowKit
set_option linter.unusedVariables false
set_option linter.unusedSimpArgs false
/-- A pointer to a cell that holds u. -/
def PtrTo (w : World) (X : Value) (u : Value) : Prop := ∃ b o, X = .pointer (some ⟨b, o, none⟩) ∧ b < w.heap.size ∧ w.cell? ⟨b, o, none⟩ = some u
theorem PtrTo.new {w w' : World} {X u : Value} (h : PtrTo w X u) (hn : New w w') : PtrTo w' X u := by
  obtain ⟨b, o, rfl, hb, hc⟩ := h
  exact ⟨b, o, rfl, Nat.lt_of_lt_of_le hb hn.size, (hn.cell hb).trans hc⟩
theorem rdI_lay3 (w : World) (a b c : Int) (T : TypeId) : RdI (w.alloc (.cells #[.int .i64 a, .int .i64 b, .int .i64 c] T)) (.slice (some ⟨w.heap.size, 0, none⟩) 3 3) [a, b, c] := by
  refine ⟨_, 3, rfl, by simp, ⟨(fun h => by cases h), by simp⟩, fun j u hu => ⟨w.heap.size, 0, rfl, by simp, ?_⟩⟩
  rw [Nat.zero_add, cell_alloc_new _ _ _ _ _ rfl, ← Array.getElem?_toList]
  exact hu
end Go.Proofs.YteielmihlfakgaaGreatDoor
/- Contracts: texts of blocks. -/
namespace Go.Proofs.YteielmihlfakgaaGreatDoor
open Go Go.Proofs Go.RowKit
set_option linter.unusedVariables false
set_option linter.unusedSimpArgs false
set_option maxRecDepth 100000
/-- The keyword of a block. -/
def kwOf (k : Int) : ByteArray := keys.getD (k + 4).toNat ⟨#[]⟩
theorem kwOf_size {k : Int} (h : 7 ≤ k) (h' : k ≤ 12) : 1 ≤ (kwOf k).size ∧ (kwOf k).size ≤ 7 := by
  obtain rfl | rfl | rfl | rfl | rfl | rfl : k = 7 ∨ k = 8 ∨ k = 9 ∨ k = 10 ∨ k = 11 ∨ k = 12 := by omega
  all_goals decide
theorem kwOf_at {k : Int} (h : 7 ≤ k) (h' : k ≤ 12) : keys[(k + 4).toNat]? = some (kwOf k) := by
  obtain rfl | rfl | rfl | rfl | rfl | rfl : k = 7 ∨ k = 8 ∨ k = 9 ∨ k = 10 ∨ k = 11 ∨ k = 12 := by omega
  all_goals rfl
def btext (k n a b c : Int) : ByteArray := ((kwOf k ++ ⟨#[32]⟩) ++ strL (Lib.decDigits n.toNat) ++ ⟨#[32]⟩) ++ strL (jn [a, b, c])
theorem kw_at_rd {w : World} {X : Value} (h : RdS w X keys) {k : Int} (e1 : 7 ≤ k) (e2 : k ≤ 12) : ∃ b off cap, X = .slice (some ⟨b, off, none⟩) 17 cap ∧ b < w.heap.size ∧ w.cell? ⟨b, off + (k + 4).toNat, none⟩ = some (.string (kwOf k)) := by
  obtain ⟨ad, cap, rfl, _, _, hc⟩ := h
  obtain ⟨b, off, rfl, hb, hx⟩ := hc (k + 4).toNat (.string (kwOf k)) (by simp [kwOf_at e1 e2])
  exact ⟨b, off, cap, rfl, hb, hx⟩
theorem iBlockWord_any (k : Int) (s : ByteArray) (n : Int) (w : World) (h : 7 ≤ k) (h' : k ≤ 12) (hk : KW w) :
    Calls Tryz.prog 67 #[.agg #[.int .i64 k, .string s, .int .i64 n]] w fun e w' => e = .returned (.string (kwOf k)) ∧ New w w' := by
  obtain ⟨_, _, e, _, _, hc⟩ := hk
  cases e
  have hc2 : ∀ j u, keys[j]? = some u → w.cell? ⟨0, j, none⟩ = some (.string u) ∧ 0 < w.heap.size := fun j u hu => by
    obtain ⟨b, off, e, hb, hx⟩ := hc j (.string u) (by simp [hu])
    cases e
    rw [Nat.zero_add] at hx
    exact ⟨hx, hb⟩
  obtain ⟨hx, hlt⟩ := hc2 _ _ (kwOf_at h h')
  clear hc hc2
  obtain rfl | rfl | rfl | rfl | rfl | rfl : k = 7 ∨ k = 8 ∨ k = 9 ∨ k = 10 ∨ k = 11 ∨ k = 12 := by omega
  all_goals
    simp only [Int.reduceAdd, Int.reduceToNat] at hx
    generalize kwOf _ = q at hx
    clear h h'
    go_enter Tryz.func67, Tryz.ntmps67
    go_wp2_with fail
    go_ret
    exact ⟨rfl, (by repeat (first | with_reducible exact New.refl _ | with_reducible assumption | with_reducible refine New.drew ?_ | with_reducible refine New.drewN ?_ _ | with_reducible refine New.alloc ?_ _ | with_reducible refine New.setCell ?_ (by first | (simp; done) | (simp; omega) | omega) _ | with_reducible refine New.trans ?_ (by with_reducible assumption)))⟩
end Go.Proofs.YteielmihlfakgaaGreatDoor
/- Texts of codes: plain facts. -/
namespace Go.Proofs.YteielmihlfakgaaGreatDoor
open Go Go.Proofs Go.RowKit
set_option linter.unusedVariables false
set_option linter.unusedSimpArgs false
def NumOk (x : Int) : Prop := 0 ≤ x ∧ x ≤ 1000000
theorem crun_fits {c : CodeD} : ∀ (xs : List EInstruction) (n : Int) (acc : List Int), (crun c xs n acc).isSome = true → ∀ x ∈ xs, fitsC c x = true
  | [], _, _, _, x, hx => by cases hx
  | y :: ys, n, acc, h, x, hx => by
    rw [crun] at h
    split at h
    · next hh =>
      rcases List.mem_cons.1 hx with rfl | hx
      · exact hh.1
      · exact crun_fits ys _ _ h x hx
    · cases h
theorem code_head {c : CodeD} (h : isCodeB c = true) : NumsOk [c.ins, c.vars, c.outs] ∧ c.blocks.length ≤ 2000 ∧ c.steps.length ≤ 2000 := by
  rw [isCodeB] at h
  simp only [Bool.and_eq_true] at h
  have hs := h.1.1
  rw [smallB] at hs
  simp [inB] at hs
  refine ⟨?_, by omega, by omega⟩
  intro x hx
  simp at hx
  rcases hx with rfl | rfl | rfl <;> omega
theorem code_blocks {c : CodeD} (h : isCodeB c = true) : ∀ t ∈ c.blocks, 7 ≤ t.kind ∧ t.kind ≤ 12 ∧ 0 ≤ t.num ∧ t.num ≤ 9999 := by
  rw [isCodeB] at h
  simp only [Bool.and_eq_true] at h
  have hb : c.blocks.any (fun t => !isBlkE t) = false := by simpa using h.1.2
  intro t ht
  have := List.any_eq_false.1 hb t ht
  have hk : isBlk t.kind t.name t.num = true := by simpa [isBlkE] using this
  exact isBlk_bd hk
theorem code_steps {c : CodeD} (h : isCodeB c = true) : ∀ x ∈ c.steps, NumOk x.op ∧ NumOk x.arg := by
  have hh := code_head h
  rw [isCodeB] at h
  simp only [Bool.and_eq_true] at h
  have hs := h.1.1
  rw [smallB] at hs
  simp [inB] at hs
  have ho := h.2
  have hr : (crun c c.steps 0 []).isSome = true := by
    rw [okC] at ho
    cases hc : crun c c.steps 0 [] with
    | some _ => rfl
    | none => rw [hc] at ho; cases ho
  intro x hx
  have hf := crun_fits _ _ _ hr x hx
  obtain ⟨h1, h2, h3, _⟩ := fits_op hf
  rw [fitsC] at hf
  simp at hf
  have hm : manyOf c x.op ≤ 2000 := by
    unfold manyOf
    repeat' split
    all_goals omega
  unfold NumOk
  omega
def bline (t : ETerm) : List UInt8 := (kwOf t.kind).data.toList ++ (32 :: (Lib.decDigits t.num.toNat ++ [10]))
def sline (x : EInstruction) : List UInt8 := Lib.decDigits x.op.toNat ++ (32 :: (Lib.decDigits x.arg.toNat ++ [10]))
def head3 (c : CodeD) : List UInt8 := jn [c.ins, c.vars, c.outs] ++ [10]
def ctB (c : CodeD) (k : Nat) : List UInt8 := head3 c ++ (c.blocks.take k).flatMap bline
def ctS (c : CodeD) (k : Nat) : List UInt8 := (ctB c c.blocks.length ++ [45, 10]) ++ (c.steps.take k).flatMap sline
theorem ctB_next {c : CodeD} {k : Nat} (h : k < c.blocks.length) : ctB c (k + 1) = ctB c k ++ bline c.blocks[k] := by
  rw [ctB, List.take_succ_eq_append_getElem h, List.flatMap_append, ctB]; simp
theorem ctS_next {c : CodeD} {k : Nat} (h : k < c.steps.length) : ctS c (k + 1) = ctS c k ++ sline c.steps[k] := by
  rw [ctS, List.take_succ_eq_append_getElem h, List.flatMap_append, ctS]; simp
theorem head3_len {c : CodeD} (h : isCodeB c = true) : (head3 c).length ≤ 61 := by
  have h1 := jn_len (code_head h).1 3 (by simp)
  rw [List.take_of_length_le (by simp)] at h1
  rw [head3, List.length_append, List.length_singleton]; omega
theorem ctB_len {c : CodeD} (h : isCodeB c = true) : ∀ k, k ≤ c.blocks.length → (ctB c k).length ≤ 61 + 13 * k := by
  intro k
  induction k with
  | zero => intro _; have := head3_len h; simpa [ctB] using this
  | succ k ih =>
    intro hk
    have h0 := ih (by omega)
    obtain ⟨e1, e2, e3, e4⟩ := code_blocks h c.blocks[k] (List.getElem_mem _)
    have hz := (kwOf_size e1 e2).2
    have hz2 := dec_len 3 c.blocks[k].num.toNat (by omega)
    have hl : (kwOf c.blocks[k].kind).data.toList.length = (kwOf c.blocks[k].kind).size := by rw [Array.length_toList]; rfl
    rw [ctB_next (by omega), bline, List.length_append, List.length_append, List.length_cons, List.length_append, List.length_singleton]
    omega
theorem ctS_len {c : CodeD} (h : isCodeB c = true) : ∀ k, k ≤ c.steps.length → (ctS c k).length ≤ 30000 + 20 * k := by
  intro k
  induction k with
  | zero =>
    intro _
    have h1 := ctB_len h c.blocks.length (Nat.le_refl _)
    have h2 := (code_head h).2.1
    rw [ctS]; simp; omega
  | succ k ih =>
    intro hk
    have h0 := ih (by omega)
    obtain ⟨e1, e2⟩ := code_steps h c.steps[k] (List.getElem_mem _)
    unfold NumOk at e1 e2
    have hz1 := dec_len 6 c.steps[k].op.toNat (by omega)
    have hz2 := dec_len 6 c.steps[k].arg.toNat (by omega)
    rw [ctS_next (by omega), sline, List.length_append, List.length_append, List.length_cons, List.length_append, List.length_singleton]
    omega
end Go.Proofs.YteielmihlfakgaaGreatDoor
