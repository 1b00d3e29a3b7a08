/- Contracts: texts without their comments. -/
import Derived.Test.YtndpgdkgjnfalaaDoorProg
import Derived.Test.YtndpgdkgjnfalaaDoorSpl
import Derived.Test.YtndpgdkgjnfalaaDoorBytesW
import Derived.Test.YtndpgdkgjnfalaaDoorLibW
import Derived.Test.YtndpgdkgjnfalaaDoorShelf
namespace Go.Proofs.YtndpgdkgjnfalaaDoor
open Go Go.Proofs Go.RowKit
set_option linter.unusedVariables false
set_option linter.unusedSimpArgs false
set_option maxRecDepth 100000
def stripR (s : ByteArray) : ByteArray × Int := if (6000 : Int) < s.size then (⟨#[]⟩, 3) else (strL (strip false s.data.toList), 0)
/-- What is left to keep. -/
theorem strip_step {s : ByteArray} {k : Nat} (h : k < s.size) (cm : Bool) : strip cm (s.data.toList.drop k) = if s[k] = 10 then s[k] :: strip false (s.data.toList.drop (k + 1)) else if (cm || s[k] == 35) then strip true (s.data.toList.drop (k + 1)) else s[k] :: strip false (s.data.toList.drop (k + 1)) := by
  rw [drop_at s k h, strip]
set_option maxHeartbeats 2000000 in
theorem sStrip_any (s : ByteArray) (w : World) :
    Calls Tryd.prog 22 #[.string s] w fun e w' => e = .returned (.tuple #[.string (stripR s).1, .int .i64 (stripR s).2]) ∧ New w w' := by
  obtain ⟨i0, hi, hz0, hz1, hz2⟩ := info_parts infoU8
  by_cases hl : (6000 : Int) < (s.size : Int)
  · rw [stripR, if_pos hl]
    go_enter Tryd.func22, Tryd.ntmps22
    go_wp2_with fail
    go_ret2
    exact ⟨rfl, (by repeat (first | with_reducible exact New.refl _ | with_reducible assumption | with_reducible refine New.drew ?_ | with_reducible refine New.drewN ?_ _ | with_reducible refine New.alloc ?_ _ | with_reducible refine New.setCell ?_ (by first | (simp; done) | (simp; omega) | omega) _ | with_reducible refine New.trans ?_ (by with_reducible assumption)))⟩
  · rw [stripR, if_neg hl]
    have hlen : s.data.toList.length = s.size := by rw [Array.length_toList]; rfl
    have HLEN := Lib.hid hlen
    have hs : s.size ≤ 6000 := by omega
    obtain ⟨S, hS⟩ : ∃ S, strip false s.data.toList = S := ⟨_, rfl⟩
    have hSl : S.length ≤ 6000 := by rw [← hS]; have := strip_len false s.data.toList; omega
    rw [hS]
    have HS := Lib.hid hS
    have own0 : (w.alloc (.cells #[] 5)).ownsRow w.heap.size 5 1 (.slice (some ⟨w.heap.size, 0, none⟩) 0 0) 0 [] := own_empty (Nat.le_refl _)
    clear hlen hS
    go_enter Tryd.func22, Tryd.ntmps22
    go_wp2_with fail
    go_loopw [4, 5, 6] (fun o c i wr => ∃ (k : Nat) (cm : Bool) (acc : List UInt8), k ≤ s.size ∧ i = .int .i64 k ∧ c = .bool cm ∧ Hid (S = acc ++ strip cm (s.data.toList.drop k)) ∧ acc.length ≤ k ∧ wr.ownsRow w.heap.size 5 1 o acc.length (acc.map byteC) ∧ New w wr) (fun _ _ i _ => s.size - (intOf i).toNat)
    case atStart => exact ⟨0, false, [], Nat.zero_le _, rfl, rfl, Lib.hid (by simpa using HS.out.symm), by simp, own0, (by repeat (first | with_reducible exact New.refl _ | with_reducible assumption | with_reducible refine New.drew ?_ | with_reducible refine New.drewN ?_ _ | with_reducible refine New.alloc ?_ _ | with_reducible refine New.setCell ?_ (by first | (simp; done) | (simp; omega) | omega) _ | with_reducible refine New.trans ?_ (by with_reducible assumption)))⟩
    case round =>
      obtain ⟨k, cm, acc, hk, rfl, rfl, hA, hal, hown, hb⟩ := hrel
      clear own0
      by_cases hlt : k < s.size
      · have HT := Lib.hid (strip_step hlt cm)
        have hbz := hb.size
        generalize hc : s[k] = c at HT
        have HC := Lib.hid hc
        by_cases h10 : c = 10
        · subst h10
          rw [if_pos rfl] at HT
          have hcz : s[k].toNat = 10 := by rw [HC.out]; rfl
          go_wp2_with (first | (at_builtin; refine wpList_append_own _ rfl _ _ 22 rfl (w.heap.size) 5 i0 (.int .u8 0) 1 1 Tryd.underlying22 hi hz0 hz1 hz2 rfl (by decide) _ _ _ rfl (hown.alloc _) ⟨wr.heap.size, 0, none⟩ 1 1 [byteC ((10 : UInt8))] rfl rfl (by intro j u hj; match j, hj with | 0, hj => simp at hj; subst hj; first | (simp [Addr.add, byteC]; done) | exact alloc_one rfl) (by intro u hu; simp at hu; subst hu; rfl) (by unfold maxLen; omega) (by omega) (by first | (simp; done) | (simp; omega) | omega) ?_; intro va wa howna hgra _))
          have ba := New.grown (hb.alloc _) hgra (fun q hq => by have := (own_block_lt hown q hq).1; simpa using this)
          go_roundw
          case rel => exact ⟨k + 1, false, acc ++ [10], by omega, by go_num, rfl, Lib.hid (by rw [hA.out, HT.out]; simp), by simp; omega, by simpa using howna, ba⟩
          case measure => simp [intOf]; omega
        · by_cases h35 : c = 35
          · subst h35
            rw [if_neg (by decide), if_pos (by simp)] at HT
            have hcz : s[k].toNat = 35 := by rw [HC.out]; rfl
            go_wp2_with fail
            go_roundw
            case rel => exact ⟨k + 1, true, acc, by omega, by go_num, rfl, Lib.hid (by rw [hA.out, HT.out]), by omega, hown, hb⟩
            case measure => simp [intOf]; omega
          · have hn1 : ((c.toNat : Int) == 35) = false := by simp only [beq_eq_false_iff_ne, ne_eq]; intro e; replace e := Int.ofNat_inj.1 e; exact h35 (UInt8.toNat_inj.1 (e.trans rfl))
            have hn2 : ((c.toNat : Int) == 10) = false := by simp only [beq_eq_false_iff_ne, ne_eq]; intro e; replace e := Int.ofNat_inj.1 e; exact h10 (UInt8.toNat_inj.1 (e.trans rfl))
            cases cm
            · rw [if_neg h10, if_neg (by simp [h35])] at HT
              go_wp2_with (first | (at_builtin; refine wpList_append_own _ rfl _ _ 22 rfl (w.heap.size) 5 i0 (.int .u8 0) 1 1 Tryd.underlying22 hi hz0 hz1 hz2 rfl (by decide) _ _ _ rfl (hown.alloc _) ⟨wr.heap.size, 0, none⟩ 1 1 [byteC (c)] rfl rfl (by intro j u hj; match j, hj with | 0, hj => simp at hj; subst hj; first | (simp [Addr.add, byteC]; done) | exact alloc_one rfl) (by intro u hu; simp at hu; subst hu; rfl) (by unfold maxLen; omega) (by omega) (by first | (simp; done) | (simp; omega) | omega) ?_; intro va wa howna hgra _))
              have ba := New.grown (hb.alloc _) hgra (fun q hq => by have := (own_block_lt hown q hq).1; simpa using this)
              go_roundw
              case rel => exact ⟨k + 1, false, acc ++ [c], by omega, by go_num, rfl, Lib.hid (by rw [hA.out, HT.out]; simp), by simp; omega, by simpa using howna, ba⟩
              case measure => simp [intOf]; omega
            · rw [if_neg h10, if_pos (by simp)] at HT
              go_wp2_with fail
              go_roundw
              case rel => exact ⟨k + 1, true, acc, by omega, by go_num, rfl, Lib.hid (by rw [hA.out, HT.out]), by omega, hown, hb⟩
              case measure => simp [intOf]; omega
      · obtain rfl : k = s.size := by omega
        have hE : S = acc := by
          have := hA.out
          rw [List.drop_eq_nil_of_le (by rw [HLEN.out]; exact Nat.le_refl _)] at this
          cases cm <;> simpa [strip] using this
        subst hE
        have hcv := conv_own hown
        go_wp2_with fail
        go_ret2
        exact ⟨rfl, (by repeat (first | with_reducible exact New.refl _ | with_reducible assumption | with_reducible refine New.drew ?_ | with_reducible refine New.drewN ?_ _ | with_reducible refine New.alloc ?_ _ | with_reducible refine New.setCell ?_ (by first | (simp; done) | (simp; omega) | omega) _ | with_reducible refine New.trans ?_ (by with_reducible assumption)))⟩
theorem own_cellsT {w : World} {base b n : Nat} {e : TypeId} {cs : Array Value} (h : base ≤ w.heap.size) (hb : b = w.heap.size) (hn : n = cs.size) (hm : cs.size ≤ 100000) : (w.alloc (.cells cs e)).ownsRow base e 1 (.slice (some ⟨b, 0, none⟩) n n) n cs.toList := by
  subst hb hn
  refine ⟨by simp, .inr ⟨w.heap.size, cs.size, cs, rfl, h, Array.getElem?_push_size, Nat.le_refl _, by unfold maxLen; omega, by simp, by rw [Nat.mul_one, List.take_of_length_le (by simp)]⟩⟩
theorem set_two {α : Type} (f g : α → Value) (xs : List α) (k : Nat) (hk : k < xs.length) : ((xs.take k).map f ++ (xs.drop k).map g).set k (f xs[k]) = (xs.take (k + 1)).map f ++ (xs.drop (k + 1)).map g := by
  have h1 : ((xs.take k).map f).length = k := by simp; omega
  rw [List.set_append, if_neg (by omega), h1, Nat.sub_self, List.drop_eq_getElem_cons hk, List.map_cons, List.set_cons_zero, List.take_succ_eq_append_getElem hk]
  simp only [List.map_append, List.map_cons, List.map_nil, List.append_assoc, List.cons_append, List.nil_append]
theorem row_two {α : Type} (f g : α → Value) (xs : List α) (k : Nat) (hk : k < xs.length) : ((xs.take k).map f ++ (xs.drop k).map g)[k]? = some (g xs[k]) := by
  have h1 : ((xs.take k).map f).length = k := by simp; omega
  rw [List.getElem?_append_right (by omega), h1, Nat.sub_self, List.drop_eq_getElem_cons hk]; rfl
def cutS (x : ByteArray) : ByteArray := strL (cutH x.data.toList)
theorem cut_new (x : ByteArray) (hx : x.size ≤ 6000) (w : World) (hm : ML w) : Calls Tryd.prog 54 #[.string x, .string ⟨#[35]⟩] w fun e w' => (∃ q r, e = .returned (.tuple #[.string (cutS x), .string q, .bool r])) ∧ New w w' := by
  obtain ⟨m, hm⟩ := hm
  refine (Tryd.strings_Cut x ⟨#[35]⟩ m w (by omega) hm).mono ?_
  rintro e w' ⟨rfl, n, rfl⟩
  exact ⟨⟨_, _, rfl⟩, New.drewN (New.refl w) n⟩
set_option maxHeartbeats 2000000 in
theorem iStrip_any (s : ByteArray) (w : World) (hm : ML w) :
    Calls Tryd.prog 23 #[.string s] w fun e w' => e = .returned (.tuple #[.string (stripR s).1, .int .i64 (stripR s).2]) ∧ New w w' := by
  by_cases hl : (6000 : Int) < (s.size : Int)
  · rw [stripR, if_pos hl]
    go_enter Tryd.func23, Tryd.ntmps23
    go_wp2_with fail
    go_ret2
    exact ⟨rfl, (by repeat (first | with_reducible exact New.refl _ | with_reducible assumption | with_reducible refine New.drew ?_ | with_reducible refine New.drewN ?_ _ | with_reducible refine New.alloc ?_ _ | with_reducible refine New.setCell ?_ (by first | (simp; done) | (simp; omega) | omega) _ | with_reducible refine New.trans ?_ (by with_reducible assumption)))⟩
  · rw [stripR, if_neg hl]
    have hlen : s.data.toList.length = s.size := by rw [Array.length_toList]; rfl
    have hs : s.size ≤ 6000 := by omega
    have HM := Lib.hid hm
    obtain ⟨m, hm⟩ := hm
    have HS := Tryd.strings_Split s ⟨#[10]⟩ m w (by omega) hm (by decide)
    have hcl := splitB_len 10 s
    rw [← hcl] at HS
    have hsp := splitB_spl 10 s
    generalize Lib.splitB ⟨#[10]⟩ 0 (Lib.countB s ⟨#[10]⟩) s = L at hcl hsp HS
    clear hcl hm
    replace HS := Lib.hid HS
    have hln : L.length ≤ 6001 := by
      have h1 := spl_len 10 s.data.toList
      rw [← hsp, List.length_map] at h1; omega
    have HX := Lib.hid (fun (x : ByteArray) (hx : x ∈ L) => (by
      have := spl_mem_len 10 s.data.toList x.data.toList (by rw [← hsp]; exact List.mem_map_of_mem hx)
      have e : x.data.toList.length = x.size := by rw [Array.length_toList]; rfl
      omega : x.size ≤ 6000))
    have HJ0 := Lib.hid (show Lib.join ((L.map cutS).map (·.data.toList)) [10] = strip false s.data.toList by
      rw [← strip_join, ← hsp, List.map_map, List.map_map]
      congr 1)
    have hj6 : (strip false s.data.toList).length ≤ 6000 := by have := strip_len false s.data.toList; omega
    generalize strip false s.data.toList = T at *
    clear hsp
    have own0 := own_cellsT (w := w) (e := 9) (cs := (L.map Value.string).toArray) (Nat.le_refl _) rfl rfl (by simp; omega)
    rw [List.toList_toArray, show (L.map Value.string).toArray.size = L.length by simp, show L.map Value.string = (L.take 0).map (fun x => Value.string (cutS x)) ++ (L.drop 0).map Value.string by simp] at own0
    rw [show L.map Value.string = (L.take 0).map (fun x => Value.string (cutS x)) ++ (L.drop 0).map Value.string by simp] at HS
    generalize ((L.take 0).map (fun x => Value.string (cutS x)) ++ (L.drop 0).map Value.string).toArray = C at HS own0
    go_enter Tryd.func23, Tryd.ntmps23
    go_wp2_with fail
    refine HS.out.mono ?_; rintro e w1 ⟨rfl, rfl⟩
    go_wp2_with fail
    have b1 : New w (w.alloc (.cells C 9)) := (by repeat (first | with_reducible exact New.refl _ | with_reducible assumption | with_reducible refine New.drew ?_ | with_reducible refine New.drewN ?_ _ | with_reducible refine New.alloc ?_ _ | with_reducible refine New.setCell ?_ (by first | (simp; done) | (simp; omega) | omega) _ | with_reducible refine New.trans ?_ (by with_reducible assumption)))
    generalize w.alloc (.cells C 9) = w1 at b1 own0
    clear HS
    go_loopw [14] (fun i wr => ∃ k : Nat, k ≤ L.length ∧ i = .int .i64 k ∧ New w wr ∧ wr.ownsRow w.heap.size 9 1 (.slice (some ⟨w.heap.size, 0, none⟩) L.length L.length) L.length ((L.take k).map (fun x => Value.string (cutS x)) ++ (L.drop k).map Value.string)) (fun i _ => L.length - (intOf i).toNat)
    case atStart => exact ⟨0, Nat.zero_le _, rfl, b1, own0⟩
    case round =>
      obtain ⟨k, hk, rfl, hb, hown⟩ := hrel
      clear own0 b1
      by_cases hlt : k < L.length
      · have hxk := HX.out L[k] (List.getElem_mem hlt)
        have hc := hown.cellAt k (by omega)
        rw [row_two _ _ _ _ hlt] at hc
        have HC := Lib.hid (cut_new L[k] hxk wr (HM.out.new hb))
        go_wp2_with fail
        refine HC.out.mono ?_; rintro e w2 ⟨⟨q, r, rfl⟩, b2⟩
        have hown2 := own_new hown b2
        have hd := hown2.cellAt k (by omega)
        rw [row_two _ _ _ _ hlt] at hd
        have hfz := hown2.frozenAt k
        have hst := Lib.hid (hown2.stored k (.string (cutS L[k]))).1
        rw [set_two (fun x => Value.string (cutS x)) Value.string _ _ hlt] at hst
        clear hown HC hc
        go_wp2_with fail
        go_roundw
        case rel => exact ⟨k + 1, by omega, by go_num, (hb.trans b2).setCell (Nat.le_refl _) _, hst.out⟩
        case measure => simp [intOf]; omega
      · obtain rfl : k = L.length := by omega
        rw [List.take_length, List.drop_length, List.map_nil, List.append_nil] at hown
        have HJ := Tryd.strings_Join w.heap.size 0 L.length (L.map cutS) ⟨#[10]⟩ wr (fun j x hj => by
          rw [Nat.zero_add]
          have hjl : j < L.length := by
            have := (List.getElem?_eq_some_iff.1 hj).1
            simpa using this
          rw [hown.cellAt j (by omega)]
          simp only [List.getElem?_map, List.getElem?_eq_getElem hjl, Option.map_some, Option.some.injEq] at hj ⊢
          rw [hj]) (by have := own_block_lt hown _ rfl; exact this.2) (by simp; omega) (by simp) (by
          show (Lib.join ((L.map cutS).map (·.data.toList)) [10]).length ≤ _
          rw [HJ0.out]; omega)
        rw [List.length_map, show (ByteArray.mk #[10]).data.toList = [10] from rfl, HJ0.out] at HJ
        replace HJ := Lib.hid HJ
        replace hown := Lib.hid hown
        go_wp2_with fail
        refine HJ.out.mono ?_; rintro e w3 ⟨rfl, b3⟩
        replace b3 : New wr w3 := b3
        go_wp2_with fail
        go_ret2
        exact ⟨rfl, (by repeat (first | with_reducible exact New.refl _ | with_reducible assumption | with_reducible refine New.drew ?_ | with_reducible refine New.drewN ?_ _ | with_reducible refine New.alloc ?_ _ | with_reducible refine New.setCell ?_ (by first | (simp; done) | (simp; omega) | omega) _ | with_reducible refine New.trans ?_ (by with_reducible assumption)))⟩
end Go.Proofs.YtndpgdkgjnfalaaDoor
