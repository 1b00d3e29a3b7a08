/- Contracts: decimal texts, of the reference. -/
import Derived.Test.YteielmihlfakgaaGreatDoorProg
import Derived.Test.YteielmihlfakgaaGreatDoorDec
import Derived.Test.YteielmihlfakgaaGreatDoorVB
import Derived.Test.YteielmihlfakgaaGreatDoorUG
import Derived.Test.YteielmihlfakgaaGreatDoorVA
namespace Go.Proofs.YteielmihlfakgaaGreatDoor
open Go Go.Proofs Go.RowKit
set_option linter.unusedVariables false
set_option linter.unusedSimpArgs false
set_option maxRecDepth 100000
/-- A string of these bytes. -/
def strL (l : List UInt8) : ByteArray := ⟨l.toArray⟩
theorem strL_list (l : List UInt8) : (strL l).data.toList = l := by simp [strL]
theorem bytesL_eq {a b : ByteArray} (h : a.data.toList = b.data.toList) : a = b := by
  cases a; cases b; simp only [ByteArray.mk.injEq]; exact Array.ext' h
theorem strL_size (l : List UInt8) : (strL l).size = l.length := by show l.toArray.size = _; simp
theorem strL_app (l m : List UInt8) : strL l ++ strL m = strL (l ++ m) := by
  apply bytesL_eq; rw [ByteArray.data_append]; simp [strL]
theorem strL_back (s : ByteArray) : strL s.data.toList = s := by apply bytesL_eq; simp [strL]
theorem strL_cmp (l : List UInt8) (s : ByteArray) : ((strL l).toList == s.toList) = (l == s.data.toList) := by rw [ByteArray.toList_eq, ByteArray.toList_eq, strL_list]
/-- One byte in new memory. -/
def ByteAt (w : World) (X : Value) (d : Int) : Prop := ∃ b, X = .slice (some ⟨b, 0, none⟩) 1 1 ∧ b < w.heap.size ∧ w.cell? ⟨b, 0, none⟩ = some (.int .u8 d)
theorem ByteAt.new {w w' : World} {X : Value} {d : Int} (h : ByteAt w X d) (hn : New w w') : ByteAt w' X d := by
  obtain ⟨b, rfl, hb, hc⟩ := h
  exact ⟨b, rfl, Nat.lt_of_lt_of_le hb hn.size, (hn.cell hb).trans hc⟩
theorem byteAt_alloc (w : World) (d : Int) (T : TypeId) : ByteAt (w.alloc (.cells #[.int .u8 d] T)) (.slice (some ⟨w.heap.size, 0, none⟩) 1 1) d :=
  ⟨_, rfl, by simp, by rw [cell_alloc_new _ _ _ _ _ rfl]; rfl⟩
theorem conv_byte (w : World) (b d cap : Nat) (z : Int) (hd : d < 256) (hz : z = (d : Int)) (hc : w.cell? ⟨b, 0, none⟩ = some (.int .u8 z)) :
    (convert 22 9 (.slice (some ⟨b, 0, none⟩) 1 cap)).run Tryz.prog w = .ok (.string (strL [UInt8.ofNat d])) w := by
  subst hz
  have h := run_convert_bytes_back (P := Tryz.prog) w 22 9 5 ⟨b, 0, none⟩ cap [UInt8.ofNat d] Tryz.underlying22 Tryz.underlying5 Tryz.underlying9 (fun j hj => by
    have hj0 : j = 0 := by simpa using hj
    subst hj0
    have e : (⟨b, 0, none⟩ : Addr).add 0 = ⟨b, 0, none⟩ := by unfold Addr.add; split <;> simp_all
    rw [e, hc]
    have : (UInt8.ofNat d).toNat = d := by simp; omega
    simp [this])
  exact h
/-- A digit's byte. -/
def dch (d : Nat) : UInt8 := UInt8.ofNat (48 + d)
theorem conv_digit (w : World) (b d cap : Nat) (z : Int) (hd : d < 10) (hz : z = 48 + (d : Int)) (hc : w.cell? ⟨b, 0, none⟩ = some (.int .u8 z)) :
    (convert 22 9 (.slice (some ⟨b, 0, none⟩) 1 cap)).run Tryz.prog w = .ok (.string (strL [dch d])) w := conv_byte w b (48 + d) cap z (by omega) (by omega) hc
theorem dec_lt' {u : Nat} (h : u < 10) : Lib.decDigits u = [dch u] := dec_lt h
theorem dec_ge' {u : Nat} (h : ¬ u < 10) : Lib.decDigits u = Lib.decDigits (u / 10) ++ [dch (u % 10)] := dec_ge h
theorem i64_in' (x : Int) (h : -9223372036854775808 ≤ x) (h' : x ≤ 9223372036854775807) : IntKind.i64.wrap x = x := IntWalk.i64_in _ ⟨h, h'⟩
theorem ret_str {l m : List UInt8} (h : l = m) : Ending.returned (.string (strL l)) = .returned (.string (strL m)) := by rw [h]
set_option maxHeartbeats 1000000 in
theorem sDec_any : ∀ (u : Nat) (w : World), u ≤ 9223372036854775807 → Calls Tryz.prog 43 #[.int .i64 (u : Int)] w fun e w' => e = .returned (.string (strL (Lib.decDigits u))) ∧ New w w' := by
  refine dec_ind (fun u h w hu => ?_) (fun u h ih w hu => ?_)
  · have hcv := fun (w0 : World) => conv_digit (w0.alloc (.cells #[.int .u8 (48 + (u : Int))] 5)) w0.heap.size u 1 (48 + (u : Int)) h rfl (by rw [cell_alloc_new _ _ _ _ _ rfl]; rfl)
    have hd := Lib.hid (dec_lt' h)
    have h10 : (u : Int) < 10 := by omega
    go_enter Tryz.func43, Tryz.ntmps43
    go_wp2_with fail
    go_ret
    exact ⟨ret_str hd.out.symm, (by repeat (first | with_reducible exact New.refl _ | with_reducible assumption | with_reducible refine New.drew ?_ | with_reducible refine New.drewN ?_ _ | with_reducible refine New.alloc ?_ _ | with_reducible refine New.setCell ?_ (by first | (simp; done) | (simp; omega) | omega) _ | with_reducible refine New.trans ?_ (by with_reducible assumption)))⟩
  · have h10 : ¬ (u : Int) < 10 := by omega
    have HI := Lib.hid (fun (w0 : World) => ih w0 (by omega))
    rw [show (((u / 10 : Nat) : Int)) = (u : Int) / 10 by omega] at HI
    have hd := Lib.hid (dec_ge' h)
    have hm := Lib.hid (show (48 + (u : Int) % 10) = 48 + ((u % 10 : Nat) : Int) by omega)
    clear ih
    go_enter Tryz.func43, Tryz.ntmps43
    go_wp2_with fail
    have g1 := i64_in' ((u : Int) / 10) (by omega) (by omega)
    have g2 : (u : Int).tmod 10 = (u : Int) % 10 := Int.tmod_eq_emod_of_nonneg (by omega)
    have g3 := i64_in' (48 + (u : Int) % 10) (by omega) (by omega)
    have g4 : IntKind.u8.wrap (48 + (u : Int) % 10) = 48 + (u : Int) % 10 := by show (48 + (u : Int) % 10) % 256 = _; omega
    have g5 : ¬ (9223372036854775807 < (strL (Lib.decDigits (u / 10))).size + (strL [dch (u % 10)]).size) := by
      rw [strL_size, strL_size]
      have := dec_len 18 (u / 10) (by omega)
      simp; omega
    refine RG.wp_facts [fun X _ => X = .int .i64 (u : Int), fun X _ => X = .int .i64 ((u : Int) / 10), fun X _ => X = .string (strL (Lib.decDigits (u / 10))), fun X _ => X = .int .i64 (u : Int), fun X _ => X = .int .i64 ((u : Int) % 10), fun X _ => X = .int .i64 (48 + (u : Int) % 10), fun X _ => X = .int .u8 (48 + (u : Int) % 10), fun X W' => ByteAt W' X (48 + (u : Int) % 10), fun X _ => X = .string (strL [dch (u % 10)]), fun X _ => X = .string (strL (Lib.decDigits (u / 10)) ++ strL [dch (u % 10)])] (by kernel_rfl) (by kernel_rfl) ⟨RG.stable_eq _, RG.stable_eq _, RG.stable_eq _, RG.stable_eq _, RG.stable_eq _, RG.stable_eq _, RG.stable_eq _, fun X w0 w1 hn ⟨b17, t17, l17, c17⟩ => ByteAt.new ⟨b17, t17, l17, c17⟩ hn, RG.stable_eq _, RG.stable_eq _, trivial⟩ ?_ ?_
    · refine ⟨?_, ?_, ?_, ?_, ?_, ?_, ?_, ?_, ?_, ?_, trivial⟩
      · intro a w9 hw ho hk
        refine .inl ⟨by rfl, ?_⟩
        have t2 := ho 0 rfl
        dsimp at t2
        try with_reducible replace hw := New.undrawN hw
        try with_reducible replace hw := New.undraw hw
        obtain ⟨c, f'⟩ := hw.rules
        go_simp
        exact New.refl _
      · intro a w9 hw ho hk
        refine .inl ⟨by rfl, ?_⟩
        have t10 : a.tmps[10]?.getD undef = .int .i64 (u : Int) := hk 0 10 (by kernel_rfl) rfl
        go_simp
        exact New.refl _
      · intro a w9 hw ho hk
        refine .inl ⟨by rfl, ?_⟩
        have t11 : a.tmps[11]?.getD undef = .int .i64 ((u : Int) / 10) := hk 1 11 (by kernel_rfl) rfl
        go_simp
        refine (HI.out _).mono ?_; rintro e w2 ⟨rfl, hb⟩
        first | exact ⟨hb, _, rfl, by simp⟩ | exact ⟨hb, by simp⟩
      · intro a w9 hw ho hk
        refine .inl ⟨by rfl, ?_⟩
        have t2 := ho 0 rfl
        dsimp at t2
        try with_reducible replace hw := New.undrawN hw
        try with_reducible replace hw := New.undraw hw
        obtain ⟨c, f'⟩ := hw.rules
        go_simp
        exact New.refl _
      · intro a w9 hw ho hk
        refine .inl ⟨by rfl, ?_⟩
        have t13 : a.tmps[13]?.getD undef = .int .i64 (u : Int) := hk 3 13 (by kernel_rfl) rfl
        go_simp
        exact New.refl _
      · intro a w9 hw ho hk
        refine .inl ⟨by rfl, ?_⟩
        have t14 : a.tmps[14]?.getD undef = .int .i64 ((u : Int) % 10) := hk 4 14 (by kernel_rfl) rfl
        go_simp
        exact New.refl _
      · intro a w9 hw ho hk
        refine .inl ⟨by rfl, ?_⟩
        have t15 : a.tmps[15]?.getD undef = .int .i64 (48 + (u : Int) % 10) := hk 5 15 (by kernel_rfl) rfl
        go_simp
        exact New.refl _
      · intro a w9 hw ho hk
        refine .inl ⟨by rfl, ?_⟩
        have t16 : a.tmps[16]?.getD undef = .int .u8 (48 + (u : Int) % 10) := hk 6 16 (by kernel_rfl) rfl
        go_simp
        first | exact ⟨(New.refl _).alloc _, _, rfl, byteAt_alloc _ _ _⟩ | exact ⟨(New.refl _).alloc _, byteAt_alloc _ _ _⟩
      · intro a w9 hw ho hk
        refine .inl ⟨by rfl, ?_⟩
        obtain ⟨b17, t17, l17, c17⟩ : ByteAt w9 (a.tmps[17]?.getD undef) (48 + (u : Int) % 10) := hk 7 17 (by kernel_rfl) rfl
        have hcv := conv_digit w9 b17 (u % 10) 1 _ (by omega) hm.out c17; go_simp; exact New.refl _
      · intro a w9 hw ho hk
        refine .inl ⟨by rfl, ?_⟩
        have t12 : a.tmps[12]?.getD undef = .string (strL (Lib.decDigits (u / 10))) := hk 2 12 (by kernel_rfl) rfl
        have t18 : a.tmps[18]?.getD undef = .string (strL [dch (u % 10)]) := hk 8 18 (by kernel_rfl) rfl
        go_simp
        exact New.refl _
    intro w1 b1 y0 g0 y1 g1 y2 g2 y3 g3 y4 g4 y5 g5 y6 g6 y7 g7 y8 g8 y9 g9
    obtain ⟨b17, rfl, l17, c17⟩ := g7
    subst g0 g1 g2 g3 g4 g5 g6 g8 g9
    try with_reducible replace b1 := New.undrawN b1
    try with_reducible replace b1 := New.undraw b1
    obtain ⟨c1, f1⟩ := b1.rules
    have z1 := b1.size
    try simp only [World.size_alloc, World.size_drew, World.heap_drewN, World.size_setCell] at z1
    simp only [RG.EndAll, List.nil_append, List.cons_append, List.length_cons, List.length_nil, Nat.zero_add, Nat.reduceAdd, List.take_succ_cons, List.take_zero, List.drop_succ_cons, List.drop_zero, RG.putAll, Act.put, List.setIfInBounds_toArray, List.set_cons_succ, List.set_cons_zero]
    go_wp2_with fail
    go_ret
    exact ⟨by rw [hd.out, ← strL_app]; rfl, (by repeat (first | with_reducible exact New.refl _ | with_reducible assumption | with_reducible refine New.drew ?_ | with_reducible refine New.drewN ?_ _ | with_reducible refine New.alloc ?_ _ | with_reducible refine New.setCell ?_ (by first | (simp; done) | (simp; omega) | omega) _ | with_reducible refine New.trans ?_ (by with_reducible assumption)))⟩
end Go.Proofs.YteielmihlfakgaaGreatDoor
