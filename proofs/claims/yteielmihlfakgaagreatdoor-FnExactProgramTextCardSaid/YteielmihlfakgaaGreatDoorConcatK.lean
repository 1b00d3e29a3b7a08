/- Contracts: slices.Concat at lists of tokens. -/
import Derived.Test.YteielmihlfakgaaGreatDoorProg
import Derived.Test.YteielmihlfakgaaGreatDoorTokX
import Derived.Test.YteielmihlfakgaaGreatDoorVC
namespace Go.Proofs.YteielmihlfakgaaGreatDoor
open Go Go.Proofs Go.RowKit
set_option linter.unusedVariables false
set_option linter.unusedSimpArgs false
set_option maxRecDepth 100000
set_option maxHeartbeats 1000000 in
theorem growK_any (n : Nat) (w : World) (hn : n ≤ 100000000) :
    Calls Tryz.prog 141 #[.slice none 0 0, .int .i64 n] w fun e w' => ∃ r, e = .returned r ∧ New w w' ∧ OwnX w.heap.size w' r [] := by
  obtain ⟨i0, hi, hz0, hz1, hz2⟩ := info_parts infoToken
  by_cases h0 : n = 0
  · subst h0
    go_enter Tryz.func141, Tryz.ntmps141
    go_wp2_with fail
    go_ret
    exact ⟨_, rfl, New.refl _, OwnX.nil _ _⟩
  · have h1 : 0 < (n : Int) := by omega
    have kc := Lib.run_append_nil_zeros (P := Tryz.prog) w 88 3 88 132 i0 (Value.agg #[.int .i64 0, .string ⟨#[]⟩]) .i64 .i64 Tryz.underlying88 Tryz.underlying3 hi hz0 n (by omega) (by rw [hz1]; omega) (by omega) (by rw [hz2]; omega)
    have hge := grownCap_ge w n 0 132
    have hle := grownCap_le_maxLen w n 0 132 (by unfold maxLen; omega)
    generalize grownCap w n 0 132 = C at kc hge hle
    have hle' : C ≤ 9223372036854775807 := by unfold maxLen at hle; omega
    have hle0 : (0 : Int) ≤ (C : Int) := by omega
    go_enter Tryz.func141, Tryz.ntmps141
    go_wp2_with (at_builtin; refine wpList_append_is rfl _ _ _ _ rfl _ _ _ rfl rfl kc ?_)
    go_ret
    refine ⟨_, rfl, (by repeat (first | with_reducible exact New.refl _ | with_reducible assumption | with_reducible refine New.drew ?_ | with_reducible refine New.drewN ?_ _ | with_reducible refine New.alloc ?_ _ | with_reducible refine New.setCell ?_ (by first | (simp; done) | (simp; omega) | omega) _ | with_reducible refine New.trans ?_ (by with_reducible assumption))), [], rfl, rfl, .inr ⟨w.heap.size, C, _, rfl, Nat.le_refl _, (show ((w.alloc _).drew).heap[w.heap.size]? = _ from Array.getElem?_push_size), Nat.zero_le _, hle, ?_, by simp⟩⟩
    simp only [Array.size_append, size_zeroCells]
    simp
    omega
set_option maxHeartbeats 1600000 in
theorem concatK_any (v : Value) (vs : List Value) (xss : List (List ByteArray)) (w : World) (hv : Rd w v vs.length vs) (hlen : vs.length = xss.length) (hr : ∀ k (h : k < vs.length) (h' : k < xss.length), RdX w vs[k] xss[k]) (hsz : ∀ xs ∈ xss, xs.length ≤ 100000) (hn : xss.length ≤ 8) :
    Calls Tryz.prog 104 #[v] w (RetX w xss.flatten) := by
  obtain ⟨a, cap, rfl, hm, h0, hc⟩ := hv
  have HC := Lib.hid (fun (k : Nat) (hk : k < vs.length) => show ∃ b off, a = some ⟨b, off, none⟩ ∧ b < w.heap.size ∧ w.cell? ⟨b, off + k, none⟩ = some vs[k] from hc k vs[k] (by simp [hk]))
  clear h0 hc
  have HR := Lib.hid hr; clear hr
  have HB := Lib.hid (fun k => flat_take_bd xss hsz k)
  have hvn : vs.length ≤ 8 := by omega
  go_enter Tryz.func104, Tryz.ntmps104
  go_wp2_with fail
  go_loop [3, 11] (fun s i => ∃ k : Nat, k ≤ vs.length ∧ i = .int .i64 k ∧ s = .int .i64 (((xss.take k).flatten.length : Nat) : Int)) (fun _ i => vs.length - (intOf i).toNat)
  case atStart => exact ⟨0, Nat.zero_le _, rfl, by simp⟩
  case round =>
    obtain ⟨k, hk, rfl, rfl⟩ := hrel
    by_cases hlt : k < vs.length
    · obtain ⟨b, off, rfl, hbl, hx⟩ := HC.out k hlt
      have hlt' : k < xss.length := by omega
      obtain ⟨ka, kc, hke⟩ := (HR.out k hlt hlt').slice
      have hkm : xss[k].length ≤ 100000 := hsz _ (List.getElem_mem hlt')
      rw [hke] at hx
      have hF := flat_next hlt'
      have hF' := congrArg List.length hF
      rw [List.length_append] at hF'
      have hb1 := HB.out (k + 1)
      have HF := Lib.hid hF'
      have hb2 : (xss.take k).flatten.length + xss[k].length ≤ 800000 := by rw [← hF']; have := Nat.mul_le_mul_right 100000 hn; omega
      have hneg : ¬ (((xss.take k).flatten.length : Int) + (xss[k].length : Int) < 0) := by omega
      clear hF hF' hb1
      generalize (xss.take k).flatten.length = s0 at *
      go_wp2_with fail
      go_round
      case rel => exact ⟨k + 1, by omega, by go_num, by rw [HF.out]; go_num⟩
      case measure => simp [intOf]; omega
    · obtain rfl : k = vs.length := by omega
      have hE : (xss.take vs.length).flatten = xss.flatten := by rw [hlen, List.take_length]
      have hb2 : (xss.take vs.length).flatten.length ≤ 800000 := by have := HB.out vs.length; have := Nat.mul_le_mul_right 100000 hn; omega
      generalize (xss.take vs.length).flatten.length = s0 at *
      go_wp2_with fail
      refine (growK_any s0 _ (by omega)).mono ?_; rintro e w2 ⟨r2, rfl, b2, own2⟩
      obtain ⟨c2, f2⟩ := b2.rules
      have z2 := b2.size
      try simp only [World.size_alloc, World.size_drew, World.heap_drewN, World.size_setCell] at z2
      go_wp2_with fail
      go_loopw [6, 27] (fun o i wr => ∃ k : Nat, k ≤ vs.length ∧ i = .int .i64 k ∧ New w wr ∧ OwnX w.heap.size wr o (xss.take k).flatten) (fun _ i _ => vs.length - (intOf i).toNat)
      case atStart => exact ⟨0, Nat.zero_le _, rfl, b2, by simpa using own2⟩
      case round =>
        obtain ⟨k, hk, rfl, hb, hown⟩ := hrel
        clear own2 b2 z2 c2 f2
        obtain ⟨cc, f'⟩ := hb.rules
        by_cases hlt : k < vs.length
        · obtain ⟨b, off, rfl, hbl, hx⟩ := HC.out k hlt
          have hlt' : k < xss.length := by omega
          have HRk := Lib.hid ((HR.out k hlt hlt').new hb)
          obtain ⟨ka, kc, hke⟩ := (HR.out k hlt hlt').slice
          rw [hke] at hx HRk
          have HF := Lib.hid (flat_next hlt')
          have hb1 := HB.out k
          have hb3 : (xss.take k).flatten.length ≤ 800000 := by have := Nat.mul_le_mul_right 100000 hn; omega
          have hb4 : xss[k].length ≤ 100000 := hsz _ (List.getElem_mem hlt')
          clear hb1
          go_wp2_with (at_builtin; refine wpList_append_X rfl _ _ rfl w.heap.size _ _ rfl hown _ _ rfl HRk.out (by omega) hb.size ?_; intro va wa howna hga)
          go_roundw
          case rel => exact ⟨k + 1, by omega, by go_num, hga _ hb (Nat.le_refl _), by rw [HF.out]; exact howna⟩
          case measure => simp [intOf]; omega
        · obtain rfl : k = vs.length := by omega
          have hE' : (xss.take vs.length).flatten = xss.flatten := by rw [hlen, List.take_length]
          rw [hE'] at hown
          go_wp2_with fail
          go_ret
          exact ⟨_, rfl, hb, hown⟩
/-- The slice reads slices of tokens. -/
def RdXs (w : World) (v : Value) (xss : List (List ByteArray)) : Prop := ∃ vs : List Value, Rd w v vs.length vs ∧ vs.length = xss.length ∧ ∀ k (h : k < vs.length) (h' : k < xss.length), RdX w vs[k] xss[k]
theorem RdXs.new {w w' : World} {v : Value} {xss : List (List ByteArray)} (h : RdXs w v xss) (hn : New w w') : RdXs w' v xss := by
  obtain ⟨vs, h1, h2, h3⟩ := h; exact ⟨vs, h1.new hn, h2, fun k a b => (h3 k a b).new hn⟩
theorem rdV_blk {w : World} (vs : List Value) (T : TypeId) (hx : vs.length ≤ 1000000 := by simp) : Rd (w.alloc (.cells vs.toArray T)) (.slice (some ⟨w.heap.size, 0, none⟩) vs.length vs.length) vs.length vs := by
  refine ⟨some ⟨w.heap.size, 0, none⟩, vs.length, rfl, by omega, ⟨(fun h => by cases h), Nat.le_refl _⟩, fun j u hu => ⟨w.heap.size, 0, rfl, by simp, ?_⟩⟩
  rw [Nat.zero_add, World.cell?, heap_alloc_self]
  simpa using hu
theorem rdXs_lay2 {w : World} {T : TypeId} {u1 u2 : Value} {A1 A2 : List ByteArray} (h1 : RdX w u1 A1) (h2 : RdX w u2 A2) : RdXs (w.alloc (.cells #[u1, u2] T)) (.slice (some ⟨w.heap.size, 0, none⟩) 2 2) [A1, A2] := by
  refine ⟨[u1, u2], rdV_blk [u1, u2] T, rfl, fun k h h' => ?_⟩
  rcases (by simp at h; omega : k = 0 ∨ k = 1) with rfl | rfl
  · exact h1.new ((New.refl _).alloc _)
  · exact h2.new ((New.refl _).alloc _)
theorem rdXs_lay3 {w : World} {T : TypeId} {u1 u2 u3 : Value} {A1 A2 A3 : List ByteArray} (h1 : RdX w u1 A1) (h2 : RdX w u2 A2) (h3 : RdX w u3 A3) : RdXs (w.alloc (.cells #[u1, u2, u3] T)) (.slice (some ⟨w.heap.size, 0, none⟩) 3 3) [A1, A2, A3] := by
  refine ⟨[u1, u2, u3], rdV_blk [u1, u2, u3] T, rfl, fun k h h' => ?_⟩
  rcases (by simp at h; omega : k = 0 ∨ k = 1 ∨ k = 2) with rfl | rfl | rfl
  · exact h1.new ((New.refl _).alloc _)
  · exact h2.new ((New.refl _).alloc _)
  · exact h3.new ((New.refl _).alloc _)
theorem concatX_any (v : Value) (xss : List (List ByteArray)) (w : World) (h : RdXs w v xss) (hsz : ∀ xs ∈ xss, xs.length ≤ 100000) (hn : xss.length ≤ 8) :
    Calls Tryz.prog 104 #[v] w (RetX w xss.flatten) := by
  obtain ⟨vs, h1, h2, h3⟩ := h
  exact concatK_any v vs xss w h1 h2 h3 hsz hn
end Go.Proofs.YteielmihlfakgaaGreatDoor
