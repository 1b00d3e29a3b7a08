/- Contracts: slices.Concat at lists of texts. -/
import Derived.Test.YteielmihlfakgaaDoorProg
import Derived.Test.YteielmihlfakgaaDoorAppRd
import Derived.Test.YteielmihlfakgaaDoorStrSl
import Derived.Test.YteielmihlfakgaaDoorCells
namespace Go.Proofs.YteielmihlfakgaaDoor
open Go Go.Proofs Go.RowKit
set_option linter.unusedVariables false
set_option linter.unusedSimpArgs false
set_option maxRecDepth 100000
theorem infoStrC : (Tryd.prog.info? 9).map (fun i => (i.zero, i.size, i.bytes)) = some (some (.string ⟨#[]⟩), 1, 16) := by kernel_rfl
set_option maxHeartbeats 1000000 in
theorem growS_any (n : Nat) (w : World) (hn : n ≤ 100000000) :
    Calls Tryd.prog 135 #[.slice none 0 0, .int .i64 n] w fun e w' => ∃ r, e = .returned r ∧ New w w' ∧ w'.ownsRow w.heap.size 9 1 r 0 [] := by
  obtain ⟨i0, hi, hz0, hz1, hz2⟩ := info_parts infoStrC
  by_cases h0 : n = 0
  · subst h0
    go_enter Tryd.func135, Tryd.ntmps135
    go_wp2_with fail
    go_ret
    exact ⟨_, rfl, New.refl _, World.ownsRow_nil _ _ _ _⟩
  · have h1 : 0 < (n : Int) := by omega
    have kc := Lib.run_append_nil_zeros (P := Tryd.prog) w 24 3 24 9 i0 (.string ⟨#[]⟩) .i64 .i64 Tryd.underlying24 Tryd.underlying3 hi hz0 n (by omega) (by rw [hz1]; omega) (by omega) (by rw [hz2]; omega)
    have hge := grownCap_ge w n 0 9
    have hle := grownCap_le_maxLen w n 0 9 (by unfold maxLen; omega)
    generalize grownCap w n 0 9 = C at kc hge hle
    have hle' : C ≤ 9223372036854775807 := by unfold maxLen at hle; omega
    have hle0 : (0 : Int) ≤ (C : Int) := by omega
    go_enter Tryd.func135, Tryd.ntmps135
    go_wp2_with (at_builtin; refine wpList_append_is rfl _ _ _ _ rfl _ _ _ rfl rfl kc ?_)
    go_ret
    refine ⟨_, rfl, (by repeat (first | with_reducible exact New.refl _ | with_reducible assumption | with_reducible refine New.drew ?_ | with_reducible refine New.drewN ?_ _ | with_reducible refine New.alloc ?_ _ | with_reducible refine New.setCell ?_ (by first | (simp; done) | (simp; omega) | omega) _ | with_reducible refine New.trans ?_ (by with_reducible assumption))), rfl, .inr ⟨w.heap.size, C, _, rfl, Nat.le_refl _, (show ((w.alloc _).drew).heap[w.heap.size]? = _ from Array.getElem?_push_size), Nat.zero_le _, hle, ?_, by simp⟩⟩
    simp only [Array.size_append, size_zeroCells]
    simp
    omega
theorem flat_next {α : Type} {xss : List (List α)} {k : Nat} (h : k < xss.length) : (xss.take (k + 1)).flatten = (xss.take k).flatten ++ xss[k] := by
  rw [List.take_succ_eq_append_getElem h, List.flatten_append]; simp
theorem flat_bd {α : Type} {B : Nat} : ∀ (xss : List (List α)), (∀ xs ∈ xss, xs.length ≤ B) → xss.flatten.length ≤ xss.length * B
  | [], _ => by simp
  | x :: xs, h => by
    have h1 := flat_bd xs (fun y hy => h y (by simp [hy]))
    have h2 := h x (by simp)
    rw [List.flatten_cons, List.length_append, List.length_cons, Nat.add_mul]; omega
theorem flat_take_bd {α : Type} {B : Nat} (xss : List (List α)) (h : ∀ xs ∈ xss, xs.length ≤ B) (k : Nat) : (xss.take k).flatten.length ≤ xss.length * B := by
  have := flat_bd (xss.take k) (fun y hy => h y (List.mem_of_mem_take hy))
  refine Nat.le_trans this (Nat.mul_le_mul_right _ ?_)
  rw [List.length_take]; omega
set_option maxHeartbeats 1600000 in
theorem concatS_any (v : Value) (vs : List Value) (xss : List (List ByteArray)) (w : World) (hv : Rd w v vs.length vs) (hlen : vs.length = xss.length) (hr : ∀ k (h : k < vs.length) (h' : k < xss.length), RdS w vs[k] xss[k]) (hsz : ∀ xs ∈ xss, xs.length ≤ 1048576) (hn : xss.length ≤ 8) :
    Calls Tryd.prog 83 #[v] w fun e w' => ∃ r, e = .returned r ∧ New w w' ∧ w'.ownsRow w.heap.size 9 1 r xss.flatten.length (xss.flatten.map Value.string) := by
  obtain ⟨i0, hi, hz0, hz1, hz2⟩ := info_parts infoStrC
  obtain ⟨a, cap, rfl, hm, h0, hc⟩ := hv
  have HC := Lib.hid (fun (k : Nat) (hk : k < vs.length) => show ∃ b off, a = some ⟨b, off, none⟩ ∧ b < w.heap.size ∧ w.cell? ⟨b, off + k, none⟩ = some vs[k] from hc k vs[k] (by simp [hk]))
  clear h0 hc
  have HR := Lib.hid hr; clear hr
  have HB := Lib.hid (fun k => flat_take_bd xss hsz k)
  have hvn : vs.length ≤ 8 := by omega
  go_enter Tryd.func83, Tryd.ntmps83
  go_wp2_with fail
  go_loop [3, 11] (fun s i => ∃ k : Nat, k ≤ vs.length ∧ i = .int .i64 k ∧ s = .int .i64 (((xss.take k).flatten.length : Nat) : Int)) (fun _ i => vs.length - (intOf i).toNat)
  case atStart => exact ⟨0, Nat.zero_le _, rfl, by simp⟩
  case round =>
    obtain ⟨k, hk, rfl, rfl⟩ := hrel
    by_cases hlt : k < vs.length
    · obtain ⟨b, off, rfl, hbl, hx⟩ := HC.out k hlt
      have hlt' : k < xss.length := by omega
      obtain ⟨ka, kc, hke, hkm, _⟩ := HR.out k hlt hlt'
      rw [hke] at hx
      have hF := flat_next hlt'
      have hF' := congrArg List.length hF
      rw [List.length_append] at hF'
      have hb1 := HB.out (k + 1)
      have HF := Lib.hid hF'
      have hb2 : (xss.take k).flatten.length + xss[k].length ≤ 8388608 := by rw [← hF']; have := Nat.mul_le_mul_right 1048576 hn; omega
      have hneg : ¬ (((xss.take k).flatten.length : Int) + (xss[k].length : Int) < 0) := by omega
      clear hF hF' hb1
      generalize (xss.take k).flatten.length = s0 at *
      go_wp2_with fail
      go_round
      case rel => exact ⟨k + 1, by omega, by go_num, by rw [HF.out]; go_num⟩
      case measure => simp [intOf]; omega
    · obtain rfl : k = vs.length := by omega
      have hE : (xss.take vs.length).flatten = xss.flatten := by rw [hlen, List.take_length]
      have hb2 : (xss.take vs.length).flatten.length ≤ 8388608 := by have := HB.out vs.length; have := Nat.mul_le_mul_right 1048576 hn; omega
      generalize (xss.take vs.length).flatten.length = s0 at *
      go_wp2_with fail
      refine (growS_any s0 _ (by omega)).mono ?_; rintro e w2 ⟨r2, rfl, b2, own2⟩
      obtain ⟨c2, f2⟩ := b2.rules
      have z2 := b2.size
      try simp only [World.size_alloc, World.size_drew, World.heap_drewN, World.size_setCell] at z2
      go_wp2_with fail
      go_loopw [6, 27] (fun o i wr => ∃ k : Nat, k ≤ vs.length ∧ i = .int .i64 k ∧ New w wr ∧ wr.ownsRow w.heap.size 9 1 o (xss.take k).flatten.length ((xss.take k).flatten.map Value.string)) (fun _ i _ => vs.length - (intOf i).toNat)
      case atStart => exact ⟨0, Nat.zero_le _, rfl, b2, by simpa using own2⟩
      case round =>
        obtain ⟨k, hk, rfl, hb, hown⟩ := hrel
        clear own2 b2 z2 c2 f2
        obtain ⟨cc, f'⟩ := hb.rules
        by_cases hlt : k < vs.length
        · obtain ⟨b, off, rfl, hbl, hx⟩ := HC.out k hlt
          have hlt' : k < xss.length := by omega
          have HRk := Lib.hid (Rd.new (HR.out k hlt hlt') hb)
          obtain ⟨ka, kc, hke, hkm, _⟩ := HR.out k hlt hlt'
          rw [hke] at hx HRk
          have HF := Lib.hid (flat_next hlt')
          have hb1 := HB.out k
          have hb3 : (xss.take k).flatten.length ≤ 8388608 := by have := Nat.mul_le_mul_right 1048576 hn; omega
          have hb4 : xss[k].length ≤ 1048576 := hsz _ (List.getElem_mem hlt')
          clear hb1
          go_wp2_with (at_builtin; refine wpList_append_rd rfl _ _ 24 rfl w.heap.size 9 i0 (.string ⟨#[]⟩) 1 16 Tryd.underlying24 hi hz0 hz1 hz2 rfl (by decide) _ _ _ rfl hown _ xss[k].length (xss[k].map Value.string) rfl HRk.out (by simp) (by intro u hu; obtain ⟨y, _, rfl⟩ := List.mem_map.1 hu; rfl) (by unfold maxLen; omega) (by omega) hb.size ?_; intro va wa howna hgra)
          have ba : New w wa := New.grown hb hgra (fun q hq => (own_block_lt hown q hq).1)
          go_roundw
          case rel => exact ⟨k + 1, by omega, by go_num, ba, by rw [HF.out, List.length_append, List.map_append]; exact howna⟩
          case measure => simp [intOf]; omega
        · obtain rfl : k = vs.length := by omega
          have hE' : (xss.take vs.length).flatten = xss.flatten := by rw [hlen, List.take_length]
          rw [hE'] at hown
          go_wp2_with fail
          go_ret
          exact ⟨_, rfl, hb, hown⟩
end Go.Proofs.YteielmihlfakgaaDoor
