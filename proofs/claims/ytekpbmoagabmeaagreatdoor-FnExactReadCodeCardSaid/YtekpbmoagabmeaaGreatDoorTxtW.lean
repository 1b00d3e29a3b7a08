/- Contracts: lists of numbers as texts. -/
import Derived.Lib.Join
import Derived.Test.YtekpbmoagabmeaaGreatDoorProg
import Derived.Test.YtekpbmoagabmeaaGreatDoorNumW
import Derived.Test.YtekpbmoagabmeaaGreatDoorInts
namespace Go.Proofs.YtekpbmoagabmeaaGreatDoor
open Go Go.Proofs Go.RowKit
set_option linter.unusedVariables false
set_option linter.unusedSimpArgs false
set_option maxRecDepth 100000
/-- Numbers with commas between them. -/
def jn (xs : List Int) : List UInt8 := Lib.join (xs.map fun x => Lib.decDigits x.toNat) [44]
theorem join_snoc (l : List (List UInt8)) (x sep : List UInt8) : Lib.join (l ++ [x]) sep = Lib.join l sep ++ ((if l.isEmpty then [] else sep) ++ x) := by
  cases l with
  | nil => simp [Lib.join_nil, Lib.join_one]
  | cons y l =>
    rw [List.cons_append, Lib.join_cons, Lib.join_cons]
    simp [Lib.joinTail]
theorem jn_next {xs : List Int} {k : Nat} (h : k < xs.length) : jn (xs.take (k + 1)) = jn (xs.take k) ++ ((if k = 0 then [] else [44]) ++ Lib.decDigits xs[k].toNat) := by
  rw [jn, List.take_succ_eq_append_getElem h, List.map_append, List.map_cons, List.map_nil, join_snoc]
  have e : ((xs.take k).map fun x => Lib.decDigits x.toNat).isEmpty = decide (k = 0) := by
    cases k with
    | zero => rfl
    | succ k => cases xs with
      | nil => simp at h
      | cons a r => rfl
  rw [e]
  simp [jn]
def NumsOk (xs : List Int) : Prop := ∀ x ∈ xs, 0 ≤ x ∧ x ≤ 9223372036854775807
theorem jn_len : ∀ {xs : List Int} (h : NumsOk xs) (k : Nat), k ≤ xs.length → (jn (xs.take k)).length ≤ 20 * k := by
  intro xs h k
  induction k with
  | zero => intro _; simp [jn, Lib.join_nil]
  | succ k ih =>
    intro hk
    have hx := h xs[k] (List.getElem_mem _)
    have := dec_len 18 xs[k].toNat (by omega)
    rw [jn_next (by omega), List.length_append, List.length_append]
    have := ih (by omega)
    split <;> simp <;> omega
theorem infoStrT : (Tryz.prog.info? 9).map (fun i => (i.zero, i.size, i.bytes)) = some (some (.string ⟨#[]⟩), 1, 16) := by kernel_rfl
set_option maxHeartbeats 1000000 in
theorem iJoin_any (v : Value) (xs : List Int) (w : World) (hv : RdI w v xs) (hx : NumsOk xs) (h1 : 1 ≤ xs.length) (h2 : xs.length ≤ 1000) (hp : PW w) :
    Calls Tryz.prog 82 #[v, .string ⟨#[44]⟩] w fun e w' => e = .returned (.string (strL (jn xs))) ∧ New w w' := by
  obtain ⟨a, cap, rfl, hm, HC⟩ := hv.open
  obtain ⟨i0, hi, hz0, hz1, hz2⟩ := info_parts infoStrT
  have HP := Lib.hid hp
  have HX := Lib.hid hx
  have HD := Lib.hid (fun (x : Int) (h : 0 ≤ x ∧ x ≤ 9223372036854775807) (w0 : World) (hw : New w w0) => by
    have h1 := iDecimal_any x w0 (by omega) h.2 (HP.out.new hw)
    rw [itoa_nn h.1] at h1
    exact h1)
  clear hp hx
  go_enter Tryz.func82, Tryz.ntmps82
  go_wp2_with (at_make; refine wpList_make_full _ rfl _ _ 41 rfl w.heap.size 9 i0 (.string ⟨#[]⟩) 1 Tryz.underlying41 hi hz0 hz1 .i64 .i64 _ _ xs.length rfl rfl rfl rfl (by rw [hz2]; omega) (by unfold maxLen; omega) (Nat.le_refl _) ?_; intro w1 hown hgr)
  have b1 : New w w1 := (New.refl w).grown hgr (fun k hk => by cases hk)
  have hown1 : w1.ownsRow w.heap.size 9 1 (.slice (some ⟨w.heap.size, 0, none⟩) xs.length xs.length) xs.length (((xs.take 0).map (fun x => Value.string (strL (Lib.decDigits x.toNat)))) ++ List.replicate (xs.length - 0) (.string ⟨#[]⟩)) := by
    have e : (madeCells (Value.string ⟨#[]⟩).cells (xs.length * 1)).toList = ((xs.take 0).map (fun x => Value.string (strL (Lib.decDigits x.toNat)))) ++ List.replicate (xs.length - 0) (.string ⟨#[]⟩) := by
      rw [show (Value.string ⟨#[]⟩).cells = #[.string ⟨#[]⟩] from rfl, toList_madeCells_one]; simp
    rw [← e]; exact hown
  clear hown hgr hz2 hz1 hz0 hi
  go_wp2_with fail
  go_loopw [13] (fun i wr => ∃ k : Nat, k ≤ xs.length ∧ i = .int .i64 k ∧ New w wr ∧ wr.ownsRow w.heap.size 9 1 (.slice (some ⟨w.heap.size, 0, none⟩) xs.length xs.length) xs.length (((xs.take k).map (fun x => Value.string (strL (Lib.decDigits x.toNat)))) ++ List.replicate (xs.length - k) (.string ⟨#[]⟩))) (fun i _ => xs.length - (intOf i).toNat)
  case atStart => exact ⟨0, Nat.zero_le _, rfl, b1, hown1⟩
  case round =>
    obtain ⟨k, hk, rfl, hb, hown⟩ := hrel
    clear b1 hown1
    by_cases hlt : k < xs.length
    · obtain ⟨b, off, rfl, hbl, hx⟩ := HC.out wr hb k hlt
      have hxk := HX.out xs[k] (List.getElem_mem hlt)
      clear hv
      go_wp2_with fail
      refine (HD.out xs[k] hxk _ (by repeat (first | with_reducible exact New.refl _ | with_reducible assumption | with_reducible refine New.drew ?_ | with_reducible refine New.drewN ?_ _ | with_reducible refine New.alloc ?_ _ | with_reducible refine New.setCell ?_ (by first | (simp; done) | (simp; omega) | omega) _ | with_reducible refine New.trans ?_ (by with_reducible assumption)))).mono ?_; rintro e w2 ⟨rfl, b2⟩
      have hown2 := own_new hown b2
      have hd : w2.cell? ⟨w.heap.size, k, none⟩ = some (.string ⟨#[]⟩) := by rw [hown2.cellAt k (by omega)]; exact row_at _ _ _ _ hlt
      have hfz := hown2.frozenAt k
      have hst := Lib.hid (hown2.stored k (.string (strL (Lib.decDigits xs[k].toNat)))).1
      rw [set_next _ _ _ _ hlt] at hst
      clear hown
      go_wp2_with fail
      go_roundw
      case rel => exact ⟨k + 1, by omega, by go_num, (hb.trans b2).setCell (Nat.le_refl _) _, hst.out⟩
      case measure => simp [intOf]; omega
    · obtain rfl : k = xs.length := by omega
      rw [List.take_length, Nat.sub_self, List.replicate_zero, List.append_nil] at hown
      have hlen := jn_len HX.out xs.length (Nat.le_refl _)
      rw [List.take_length] at hlen
      have HJ := Tryz.strings_Join w.heap.size 0 xs.length (xs.map fun x => strL (Lib.decDigits x.toNat)) ⟨#[44]⟩ wr (fun j x hj => by
        rw [Nat.zero_add]
        have hjl : j < xs.length := by
          have := (List.getElem?_eq_some_iff.1 hj).1
          simpa using this
        rw [hown.cellAt j (by omega)]
        simp only [List.getElem?_map, List.getElem?_eq_getElem hjl, Option.map_some, Option.some.injEq] at hj ⊢
        rw [hj]) (by have := own_block_lt hown _ rfl; exact this.2) (by simp; omega) (by simp) (by
        rw [List.map_map, show ((fun x : ByteArray => x.data.toList) ∘ fun x : Int => strL (Lib.decDigits x.toNat)) = (fun x : Int => Lib.decDigits x.toNat) from funext fun x => strL_list _]
        show (jn xs).length ≤ _
        omega)
      rw [List.map_map, show ((fun x : ByteArray => x.data.toList) ∘ fun x : Int => strL (Lib.decDigits x.toNat)) = (fun x : Int => Lib.decDigits x.toNat) from funext fun x => strL_list _, List.length_map] at HJ
      replace HJ := Lib.hid HJ
      replace hown := Lib.hid hown
      go_wp2_with fail
      refine HJ.out.mono ?_; rintro e w3 ⟨rfl, b3⟩
      replace b3 : New wr w3 := b3
      go_wp2_with fail
      go_ret
      exact ⟨rfl, (by repeat (first | with_reducible exact New.refl _ | with_reducible assumption | with_reducible refine New.drew ?_ | with_reducible refine New.drewN ?_ _ | with_reducible refine New.alloc ?_ _ | with_reducible refine New.setCell ?_ (by first | (simp; done) | (simp; omega) | omega) _ | with_reducible refine New.trans ?_ (by with_reducible assumption)))⟩
set_option maxHeartbeats 1000000 in
theorem sL20_any (v : Value) (xs : List Int) (w : World) (hv : RdI w v xs) (hx : NumsOk xs) (h2 : xs.length ≤ 1000) :
    Calls Tryz.prog 51 #[v] w fun e w' => e = .returned (.string (strL (jn xs))) ∧ New w w' := by
  obtain ⟨a, cap, rfl, hm, HC⟩ := hv.open
  have HX := Lib.hid hx
  have HL := Lib.hid (fun (k : Nat) (h : k ≤ xs.length) => jn_len hx k h)
  clear hx
  go_enter Tryz.func51, Tryz.ntmps51
  go_wp2_with fail
  go_loopw [3, 4] (fun t i wr => ∃ k : Nat, k ≤ xs.length ∧ i = .int .i64 k ∧ t = .string (strL (jn (xs.take k))) ∧ New w wr) (fun _ i _ => xs.length - (intOf i).toNat)
  case atStart => exact ⟨0, Nat.zero_le _, rfl, rfl, New.refl _⟩
  case round =>
    obtain ⟨k, hk, rfl, rfl, hb⟩ := hrel
    by_cases hlt : k < xs.length
    · obtain ⟨b, off, rfl, hbl, hx⟩ := HC.out wr hb k hlt
      have hxk := HX.out xs[k] (List.getElem_mem hlt)
      have HT := Lib.hid (jn_next hlt)
      have hz := HL.out k hk
      rw [← strL_size] at hz
      generalize xs[k] = x at hx hxk HT
      obtain ⟨m, rfl⟩ := Int.eq_ofNat_of_zero_le hxk.1
      have HD := Lib.hid (fun (w0 : World) => sDec_any m w0 (by omega))
      have hzd := dec_len 18 m (by omega)
      rw [← strL_size] at hzd
      clear hv
      by_cases hk0 : k = 0
      · subst hk0
        rw [Nat.add_zero] at hx
        have g1 : ¬ (9223372036854775807 < (strL (jn [])).size + (strL (Lib.decDigits m)).size) := by rw [List.take_zero] at hz; omega
        go_wp2_with fail
        refine (HD.out _).mono ?_; rintro e w2 ⟨rfl, b2⟩
        try with_reducible replace b2 := New.undrawN b2
        try with_reducible replace b2 := New.undraw b2
        obtain ⟨c2, f2⟩ := b2.rules
        have z2 := b2.size
        try simp only [World.size_alloc, World.size_drew, World.heap_drewN, World.size_setCell] at z2
        go_wp2_with fail
        go_roundw
        case rel => exact ⟨1, by omega, by go_num, by rw [HT.out, if_pos trivial, List.take_zero, List.nil_append, Int.toNat_natCast, ← strL_app], (by repeat (first | with_reducible exact New.refl _ | with_reducible assumption | with_reducible refine New.drew ?_ | with_reducible refine New.drewN ?_ _ | with_reducible refine New.alloc ?_ _ | with_reducible refine New.setCell ?_ (by first | (simp; done) | (simp; omega) | omega) _ | with_reducible refine New.trans ?_ (by with_reducible assumption)))⟩
        case measure => simp [intOf]; omega
      · have hk1 : (0 : Int) < (k : Int) := by omega
        have g1 : ¬ (9223372036854775807 < (strL (jn (xs.take k))).size + 1) := by omega
        have g2 : ¬ (9223372036854775807 < (strL (jn (xs.take k))).size + 1 + (strL (Lib.decDigits m)).size) := by omega
        go_wp2_with fail
        refine (HD.out _).mono ?_; rintro e w2 ⟨rfl, b2⟩
        try with_reducible replace b2 := New.undrawN b2
        try with_reducible replace b2 := New.undraw b2
        obtain ⟨c2, f2⟩ := b2.rules
        have z2 := b2.size
        try simp only [World.size_alloc, World.size_drew, World.heap_drewN, World.size_setCell] at z2
        go_wp2_with fail
        go_roundw
        case rel => exact ⟨k + 1, by omega, by go_num, by rw [HT.out, if_neg hk0, Int.toNat_natCast, ← strL_app, ← strL_app, ← ByteArray.append_assoc]; rfl, (by repeat (first | with_reducible exact New.refl _ | with_reducible assumption | with_reducible refine New.drew ?_ | with_reducible refine New.drewN ?_ _ | with_reducible refine New.alloc ?_ _ | with_reducible refine New.setCell ?_ (by first | (simp; done) | (simp; omega) | omega) _ | with_reducible refine New.trans ?_ (by with_reducible assumption)))⟩
        case measure => simp [intOf]; omega
    · obtain rfl : k = xs.length := by omega
      rw [List.take_length] at *
      go_wp2_with fail
      go_ret
      exact ⟨rfl, (by repeat (first | with_reducible exact New.refl _ | with_reducible assumption | with_reducible refine New.drew ?_ | with_reducible refine New.drewN ?_ _ | with_reducible refine New.alloc ?_ _ | with_reducible refine New.setCell ?_ (by first | (simp; done) | (simp; omega) | omega) _ | with_reducible refine New.trans ?_ (by with_reducible assumption)))⟩
end Go.Proofs.YtekpbmoagabmeaaGreatDoor
