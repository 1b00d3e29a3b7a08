/- Contracts: lists of tokens. -/
import Derived.Test.YtflhdijlhdckoaaDoorProg
import Derived.Test.YtflhdijlhdckoaaDoorTokFn
namespace Go.Proofs.YtflhdijlhdckoaaDoor
open Go Go.Proofs Go.RowKit
set_option linter.unusedVariables false
set_option linter.unusedSimpArgs false
set_option maxRecDepth 100000
def badTok (t : EToken) : Bool := !tokB t.kind t.text
/-- The code of a list of tokens. -/
def tokCode (ts : List EToken) : Int := if 800 < ts.length then 3 else if ts.any badTok then 1 else 0
theorem tokensCode1_any (k : Int) (s : ByteArray) (w : World) (hs : s.size ≤ 1048576) (hp : PW w) (he : ER w) :
    Calls Tryd.prog 107 #[.agg #[.int .i64 k, .string s]] w fun e w' => e = .returned (.bool (!tokB k s)) ∧ New w w' := by
  have HP := Lib.hid hp
  have HE := Lib.hid he
  clear hp he
  go_enter Tryd.func107, Tryd.ntmps107
  go_wp2_with fail
  refine (iIsToken_any k s _ hs (HP.out.new (by repeat (first | with_reducible exact New.refl _ | with_reducible assumption | with_reducible refine New.drew ?_ | with_reducible refine New.drewN ?_ _ | with_reducible refine New.alloc ?_ _ | with_reducible refine New.setCell ?_ (by first | (simp; done) | (simp; omega) | omega) _ | with_reducible refine New.trans ?_ (by with_reducible assumption)))) (HE.out.new (by repeat (first | with_reducible exact New.refl _ | with_reducible assumption | with_reducible refine New.drew ?_ | with_reducible refine New.drewN ?_ _ | with_reducible refine New.alloc ?_ _ | with_reducible refine New.setCell ?_ (by first | (simp; done) | (simp; omega) | omega) _ | with_reducible refine New.trans ?_ (by with_reducible assumption))))).mono ?_; rintro e w1 ⟨rfl, b1⟩
  try with_reducible replace b1 := New.undrawN b1
  try with_reducible replace b1 := New.undraw b1
  obtain ⟨c1, f1⟩ := b1.rules
  have z1 := b1.size
  try simp only [World.size_alloc, World.size_drew, World.heap_drewN, World.size_setCell] at z1
  have z1_0 : w.heap.size < w1.heap.size := by omega
  go_wp2_with fail
  go_ret
  exact ⟨rfl, (by repeat (first | with_reducible exact New.refl _ | with_reducible assumption | with_reducible refine New.drew ?_ | with_reducible refine New.drewN ?_ _ | with_reducible refine New.alloc ?_ _ | with_reducible refine New.setCell ?_ (by first | (simp; done) | (simp; omega) | omega) _ | with_reducible refine New.trans ?_ (by with_reducible assumption)))⟩
set_option maxHeartbeats 800000 in
theorem iTokensCode_any (v : Value) (ts : List EToken) (w : World) (hv : Rd w v ts.length (ts.flatMap encToken)) (hf : ∀ x ∈ ts, fitToken x) (hp : PW w) (he : ER w) :
    Calls Tryd.prog 67 #[v] w fun e w' => e = .returned (.int .i64 (tokCode ts)) ∧ New w w' := by
  have HP := Lib.hid hp
  have HE := Lib.hid he
  have HV := Lib.hid hv
  have HF := Lib.hid hf
  have HC := Lib.hid (fun (w0 : World) (hn : New w w0) => containsFuncToken_any 107 #[] badTok v ts w0 (HV.out.new hn) (fun _ _ => rfl) (fun x w1 hx h1 => tokensCode1_any x.kind x.text w1 (HF.out x hx) (HP.out.new (hn.trans h1)) (HE.out.new (hn.trans h1))))
  obtain ⟨a, cap, rfl, hm, _⟩ := hv
  clear hp he hf
  by_cases h : (800 : Int) < (ts.length : Int)
  · have e : tokCode ts = 3 := by rw [tokCode, if_pos (by omega)]
    rw [e]
    clear e
    go_enter Tryd.func67, Tryd.ntmps67
    go_wp2_with fail
    go_ret
    exact ⟨rfl, (by repeat (first | with_reducible exact New.refl _ | with_reducible assumption | with_reducible refine New.drew ?_ | with_reducible refine New.drewN ?_ _ | with_reducible refine New.alloc ?_ _ | with_reducible refine New.setCell ?_ (by first | (simp; done) | (simp; omega) | omega) _ | with_reducible refine New.trans ?_ (by with_reducible assumption)))⟩
  · cases hb : ts.any badTok with
    | true =>
      have e : tokCode ts = 1 := by rw [tokCode, if_neg (by omega), if_pos hb]
      rw [e]
      rw [hb] at HC
      clear e hb
      go_enter Tryd.func67, Tryd.ntmps67
      go_wp2_with fail
      refine (HC.out _ (by repeat (first | with_reducible exact New.refl _ | with_reducible assumption | with_reducible refine New.drew ?_ | with_reducible refine New.drewN ?_ _ | with_reducible refine New.alloc ?_ _ | with_reducible refine New.setCell ?_ (by first | (simp; done) | (simp; omega) | omega) _ | with_reducible refine New.trans ?_ (by with_reducible assumption)))).mono ?_; rintro e w1 ⟨rfl, b1⟩
      try with_reducible replace b1 := New.undrawN b1
      try with_reducible replace b1 := New.undraw b1
      obtain ⟨c1, f1⟩ := b1.rules
      have z1 := b1.size
      try simp only [World.size_alloc, World.size_drew, World.heap_drewN, World.size_setCell] at z1
      go_wp2_with fail
      go_ret
      exact ⟨rfl, (by repeat (first | with_reducible exact New.refl _ | with_reducible assumption | with_reducible refine New.drew ?_ | with_reducible refine New.drewN ?_ _ | with_reducible refine New.alloc ?_ _ | with_reducible refine New.setCell ?_ (by first | (simp; done) | (simp; omega) | omega) _ | with_reducible refine New.trans ?_ (by with_reducible assumption)))⟩
    | false =>
      have e : tokCode ts = 0 := by rw [tokCode, if_neg (by omega), if_neg (by simp [hb])]
      rw [e]
      rw [hb] at HC
      clear e hb
      go_enter Tryd.func67, Tryd.ntmps67
      go_wp2_with fail
      refine (HC.out _ (by repeat (first | with_reducible exact New.refl _ | with_reducible assumption | with_reducible refine New.drew ?_ | with_reducible refine New.drewN ?_ _ | with_reducible refine New.alloc ?_ _ | with_reducible refine New.setCell ?_ (by first | (simp; done) | (simp; omega) | omega) _ | with_reducible refine New.trans ?_ (by with_reducible assumption)))).mono ?_; rintro e w1 ⟨rfl, b1⟩
      try with_reducible replace b1 := New.undrawN b1
      try with_reducible replace b1 := New.undraw b1
      obtain ⟨c1, f1⟩ := b1.rules
      have z1 := b1.size
      try simp only [World.size_alloc, World.size_drew, World.heap_drewN, World.size_setCell] at z1
      go_wp2_with fail
      go_ret
      exact ⟨rfl, (by repeat (first | with_reducible exact New.refl _ | with_reducible assumption | with_reducible refine New.drew ?_ | with_reducible refine New.drewN ?_ _ | with_reducible refine New.alloc ?_ _ | with_reducible refine New.setCell ?_ (by first | (simp; done) | (simp; omega) | omega) _ | with_reducible refine New.trans ?_ (by with_reducible assumption)))⟩
set_option maxHeartbeats 800000 in
theorem sList_any (v : Value) (ts : List EToken) (w : World) (hv : Rd w v ts.length (ts.flatMap encToken)) (hf : ∀ x ∈ ts, fitToken x) :
    Calls Tryd.prog 64 #[v] w fun e w' => e = .returned (.int .i64 (tokCode ts)) ∧ New w w' := by
  obtain ⟨a, cap, rfl, hm, HC⟩ := Rd.flat encToken_len (by omega) hv
  have HF := Lib.hid hf
  clear hv hf
  by_cases h : (800 : Int) < (ts.length : Int)
  · have e : tokCode ts = 3 := by rw [tokCode, if_pos (by omega)]
    rw [e]
    clear e
    go_enter Tryd.func64, Tryd.ntmps64
    go_wp2_with fail
    go_ret
    exact ⟨rfl, (by repeat (first | with_reducible exact New.refl _ | with_reducible assumption | with_reducible refine New.drew ?_ | with_reducible refine New.drewN ?_ _ | with_reducible refine New.alloc ?_ _ | with_reducible refine New.setCell ?_ (by first | (simp; done) | (simp; omega) | omega) _ | with_reducible refine New.trans ?_ (by with_reducible assumption)))⟩
  · go_enter Tryd.func64, Tryd.ntmps64
    go_wp2_with fail
    go_loopw [3] (fun i wr => ∃ k : Nat, k ≤ ts.length ∧ i = .int .i64 k ∧ Hid ((ts.take k).any badTok = false) ∧ New w wr) (fun i _ => ts.length - (intOf i).toNat)
    case atStart => exact ⟨0, Nat.zero_le _, rfl, Lib.hid (by simp), New.refl _⟩
    case round =>
      obtain ⟨k, hk, rfl, hpre, hN⟩ := hrel
      obtain ⟨cN, fN⟩ := hN.rules
      by_cases hlt : k < ts.length
      · obtain ⟨b, off, rfl, hbl, hx⟩ := HC.out k hlt
        have x0 := hx 0 _ (by omega) rfl
        have x1 := hx 1 _ (by omega) rfl
        rw [Nat.add_zero] at x0
        have hfit := HF.out ts[k] (List.getElem_mem hlt)
        have HK := Lib.hid (fun (w0 : World) => sIsToken_any ts[k].kind ts[k].text w0 hfit)
        replace hx := Lib.hid hx
        rcases Bool.eq_false_or_eq_true (badTok ts[k]) with hb | hb
        · have hb2 : tokB ts[k].kind ts[k].text = false := by simpa [badTok] using hb
          have e : tokCode ts = 1 := by rw [tokCode, if_neg (by omega), if_pos (any_at hlt hb)]
          rw [hb2] at HK
          replace hb := Lib.hid hb
          replace hb2 := Lib.hid hb2
          have E := Lib.hid e; clear e
          go_wp2_with fail
          refine (HK.out _).mono ?_; rintro e w1 ⟨rfl, b1⟩
          try with_reducible replace b1 := New.undrawN b1
          try with_reducible replace b1 := New.undraw b1
          obtain ⟨c1, f1⟩ := b1.rules
          have z1 := b1.size
          try simp only [World.size_alloc, World.size_drew, World.heap_drewN, World.size_setCell] at z1
          go_wp2_with fail
          go_ret
          exact ⟨ret_int E.out.symm, (by repeat (first | with_reducible exact New.refl _ | with_reducible assumption | with_reducible refine New.drew ?_ | with_reducible refine New.drewN ?_ _ | with_reducible refine New.alloc ?_ _ | with_reducible refine New.setCell ?_ (by first | (simp; done) | (simp; omega) | omega) _ | with_reducible refine New.trans ?_ (by with_reducible assumption)))⟩
        · have hb2 : tokB ts[k].kind ts[k].text = true := by simpa [badTok] using hb
          have HA := Lib.hid (any_take hlt hpre.out hb)
          rw [hb2] at HK
          replace hb := Lib.hid hb
          replace hb2 := Lib.hid hb2
          go_wp2_with fail
          refine (HK.out _).mono ?_; rintro e w1 ⟨rfl, b1⟩
          try with_reducible replace b1 := New.undrawN b1
          try with_reducible replace b1 := New.undraw b1
          obtain ⟨c1, f1⟩ := b1.rules
          have z1 := b1.size
          try simp only [World.size_alloc, World.size_drew, World.heap_drewN, World.size_setCell] at z1
          go_wp2_with fail
          go_roundw
          case rel => exact ⟨k + 1, by omega, by go_num, HA, (by repeat (first | with_reducible exact New.refl _ | with_reducible assumption | with_reducible refine New.drew ?_ | with_reducible refine New.drewN ?_ _ | with_reducible refine New.alloc ?_ _ | with_reducible refine New.setCell ?_ (by first | (simp; done) | (simp; omega) | omega) _ | with_reducible refine New.trans ?_ (by with_reducible assumption)))⟩
          case measure => simp [intOf]; omega
      · obtain rfl : k = ts.length := by omega
        have e : tokCode ts = 0 := by rw [tokCode, if_neg (by omega), if_neg (by rw [any_take_all hpre.out]; simp)]
        have E := Lib.hid e; clear e
        go_wp2_with fail
        go_ret
        exact ⟨ret_int E.out.symm, (by repeat (first | with_reducible exact New.refl _ | with_reducible assumption | with_reducible refine New.drew ?_ | with_reducible refine New.drewN ?_ _ | with_reducible refine New.alloc ?_ _ | with_reducible refine New.setCell ?_ (by first | (simp; done) | (simp; omega) | omega) _ | with_reducible refine New.trans ?_ (by with_reducible assumption)))⟩
end Go.Proofs.YtflhdijlhdckoaaDoor
