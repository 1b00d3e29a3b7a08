/- Contracts: texts of codes: the reference. -/
import Derived.Deep.RegionHeld3
import Derived.Deep.AppendLies
import Derived.Deep.DrawnRows
import Derived.Lib.AppendStr
import Derived.Laws.AppendOwn
import Derived.Laws.IdiomStrings
import Derived.Test.YteielmihlfakgaaGreatDoorProg
import Derived.Test.YteielmihlfakgaaGreatDoorVD
import Derived.Test.YteielmihlfakgaaGreatDoorOwnM
import Derived.Test.YteielmihlfakgaaGreatDoorUD
import Derived.Test.YteielmihlfakgaaGreatDoorUG
namespace Go.Proofs.YteielmihlfakgaaGreatDoor
open Go Go.Proofs Go.RowKit
set_option linter.unusedVariables false
set_option linter.unusedSimpArgs false
set_option maxRecDepth 100000
set_option maxHeartbeats 1000000 in
theorem sCodeT_any (c : CodeD) (bv sv : Value) (w : World) (hb : RdT w bv c.blocks) (hs : RdN w sv c.steps) (hc : isCodeB c = true) (hf : ∀ x ∈ c.blocks, fitTerm x) :
    Calls Tryz.prog 14 #[valC c bv sv] w fun e w' => e = .returned (.string (strL (ctS c c.steps.length))) ∧ New w w' := by
  have HI := Lib.hid (fun (w0 : World) (n : New w w0) => sIsCode_any c bv sv w0 (Rd.new hb n) (Rd.new hs n) hf)
  rw [hc] at HI
  obtain ⟨h1, h2, h3⟩ := code_head hc
  have HN := Lib.hid h1
  have HBK := Lib.hid (code_blocks hc)
  have HST := Lib.hid (code_steps hc)
  obtain ⟨ba, bcap, rfl, hbm, HB⟩ := Rd.flat encTerm_len (by omega) hb
  obtain ⟨sa, scap, rfl, hsm, HS⟩ := Rd.flat encInstruction_len (by omega) hs
  have hj := jn_len h1 3 (by simp)
  rw [List.take_of_length_le (by simp), ← strL_size] at hj
  have HLB := Lib.hid (ctB_len hc)
  have HLS := Lib.hid (ctS_len hc)
  clear hb hs hc h1
  have hh3 : (head3 c).length ≤ 61 := by have := HLB.out 0 (Nat.zero_le _); simpa [ctB] using this
  have hcat : strL (jn [c.ins, c.vars, c.outs]) ++ (⟨#[10]⟩ : ByteArray) = strL (head3 c) := by rw [head3, ← strL_app]; rfl
  go_enter Tryz.func14, Tryz.ntmps14
  go_wp2_with fail
  refine (HI.out _ (by repeat (first | with_reducible exact New.refl _ | with_reducible assumption | with_reducible refine New.drew ?_ | with_reducible refine New.drewN ?_ _ | with_reducible refine New.alloc ?_ _ | with_reducible refine New.setCell ?_ (by first | (simp; done) | (simp; omega) | omega) _ | with_reducible refine New.trans ?_ (by with_reducible assumption)))).mono ?_; rintro e w1 ⟨rfl, b1⟩
  try with_reducible replace b1 := New.undrawN b1
  try with_reducible replace b1 := New.undraw b1
  obtain ⟨c1, f1⟩ := b1.rules
  have z1 := b1.size
  try simp only [World.size_alloc, World.size_drew, World.heap_drewN, World.size_setCell] at z1
  have z1_0 : w.heap.size < w1.heap.size := by omega
  go_wp2_with fail
  have g1 : ¬ (9223372036854775807 < (strL (jn [c.ins, c.vars, c.outs])).size + 1) := by omega
  refine (sL20_any _ [c.ins, c.vars, c.outs] _ (by have := rdI_lay3 w1 c.ins c.vars c.outs 2; exact this) HN.out (by simp)).mono ?_
  rintro e w2 ⟨rfl, n2⟩
  have m2 : New (w.alloc (.cells #[.int .i64 c.ins, .int .i64 c.vars, .int .i64 c.outs, .slice ba c.blocks.length bcap, .slice sa c.steps.length scap] 27)) w2 := (b1.alloc _).trans n2
  have hs2 := m2.size
  rw [World.size_alloc] at hs2
  obtain ⟨vc, w3, hcv, ow, n3⟩ := ownM_conv w2 (w.heap.size + 1) hs2 (head3 c) (by omega)
  go_wp2_with fail
  have m3 := m2.trans n3
  rw [show head3 c = ctB c 0 by simp [ctB]] at ow
  obtain ⟨c3, f3⟩ := m3.rules
  clear b1 c1 f1 n2 m2 n3 hcv hcat
  go_wp2_with fail
  go_loopw [3, 4] (fun o i wr => ∃ k : Nat, k ≤ c.blocks.length ∧ i = .int .i64 k ∧ New (w.alloc (.cells #[.int .i64 c.ins, .int .i64 c.vars, .int .i64 c.outs, .slice ba c.blocks.length bcap, .slice sa c.steps.length scap] 27)) wr ∧ OwnM (w.heap.size + 1) wr o (ctB c k)) (fun _ i _ => c.blocks.length - (intOf i).toNat)
  case atStart => exact ⟨0, Nat.zero_le _, rfl, m3, ow⟩
  case round =>
    obtain ⟨k, hk, rfl, hN, hown⟩ := hrel
    clear m3 c3 f3 ow
    obtain ⟨cN, fN⟩ := hN.rules
    by_cases hlt : k < c.blocks.length
    · have hNz := hN.size
      rw [World.size_alloc] at hNz
      have hNw : New w wr := ((New.refl w).alloc _).trans hN
      obtain ⟨b, off, rfl, hbl, hx⟩ := HB.out k hlt
      have hbr : b < wr.heap.size := by omega
      have hbx : w.heap.size < wr.heap.size := by omega
      have xb : wr.cell? ⟨w.heap.size, 3, none⟩ = some (.slice (some ⟨b, off, none⟩) c.blocks.length bcap) := (hN.cell (by simp)).trans (cell_alloc_new _ _ _ _ _ rfl)
      have x0 : wr.cell? ⟨b, off + k * 3, none⟩ = some (.int .i64 c.blocks[k].kind) := (hNw.cell hbl).trans (hx 0 _ (by omega) rfl)
      have x2 : wr.cell? ⟨b, off + k * 3 + 2, none⟩ = some (.int .i64 c.blocks[k].num) := (hNw.cell hbl).trans (hx 2 _ (by omega) rfl)
      clear hx
      obtain ⟨e1, e2, e3, e4⟩ := HBK.out c.blocks[k] (List.getElem_mem hlt)
      have HX := Lib.hid (ctB_next hlt)
      have hlen := HLB.out k hk
      rw [bline] at HX
      generalize c.blocks[k].kind = kd at x0 e1 e2 HX
      generalize c.blocks[k].num = q at x2 e3 e4 HX
      have hz1 := (kwOf_size e1 e2).2
      obtain ⟨m, rfl⟩ := Int.eq_ofNat_of_zero_le e3
      have hz2 := dec_len 3 m (by omega)
      rw [← strL_size] at hz2
      have HKY := Lib.hid (fun (w0 : World) (X : Value) (h : RdS w0 X keys) => kw_at_rd h e1 e2)
      have HDM := Lib.hid (fun (w0 : World) => sDec_any m w0 (by omega))
      have HL := Lib.hid (strL_list (Lib.decDigits m))
      rw [Int.toNat_natCast] at HX
      generalize kwOf kd = KWD at hz1 HKY HX
      generalize strL (Lib.decDigits m) = DN at hz2 HDM HL
      rw [← HL.out] at HX
      have hsz : (((KWD ++ ⟨#[32]⟩) ++ DN) ++ ⟨#[10]⟩ : ByteArray).size = KWD.size + 1 + DN.size + 1 := by
        have h9 : (⟨#[10]⟩ : ByteArray).size = 1 := rfl
        have h8 : (⟨#[32]⟩ : ByteArray).size = 1 := rfl
        rw [ByteArray.size_append, ByteArray.size_append, ByteArray.size_append, h9, h8]
      have HQ := Lib.hid (show ctB c k ++ (((KWD ++ ⟨#[32]⟩) ++ DN) ++ ⟨#[10]⟩ : ByteArray).data.toList = ctB c (k + 1) by
        rw [HX.out, ByteArray.data_append, ByteArray.data_append, ByteArray.data_append]; simp)
      clear HX
      have g1 : ¬ (9223372036854775807 < KWD.size + 1) := by omega
      have g2 : ¬ (9223372036854775807 < KWD.size + 1 + DN.size) := by omega
      have g3 : ¬ (9223372036854775807 < KWD.size + 1 + DN.size + 1) := by omega
      have hkn : ∃ i : Nat, kd = (i : Int) + 7 ∧ i ≤ 5 := ⟨(kd - 7).toNat, by omega, by omega⟩
      obtain ⟨i, rfl, hi5⟩ := hkn
      have g5 : IntKind.i64.wrap ((i : Int) + 7 - 7) = (i : Int) := by rw [Int.add_sub_cancel]; exact i64_in' _ (by omega) (by omega)
      have g5b := i64_in' (i : Int) (by omega) (by omega)
      have g6 := i64_in' ((i : Int) + 11) (by omega) (by omega)
      have g9 : 0 ≤ (i : Int) + 11 := by omega
      have g10 : (i : Int) + 11 < 17 := by omega
      have g7 : ((i : Int) + 7 + 4).toNat = i + 11 := by omega
      rw [g7] at HKY
      have g8 : ((i : Int) + 11).toNat = i + 11 := by omega
      have gk : (k : Int) < (c.blocks.length : Int) := by omega
      clear cN fN
      go_wp2_with fail
      refine RG.wp_facts [fun X _ => X = u3, fun X W' => RdS W' X keys, fun X _ => X = .pointer (some ⟨w.heap.size, 3, none⟩), fun X _ => X = .slice (some ⟨b, off, none⟩) c.blocks.length bcap, fun X _ => X = .int .i64 k, fun X _ => X = .pointer (some ⟨b, off + k * 3, none⟩), fun X _ => X = .pointer (some ⟨b, off + k * 3, none⟩), fun X _ => X = .int .i64 ((i : Int) + 7), fun X _ => X = .int .i64 (i : Int), fun X _ => X = .int .i64 ((i : Int) + 11), fun X W' => PtrTo W' X (.string KWD), fun X _ => X = .string KWD, fun X _ => X = .string (KWD ++ ⟨#[32]⟩), fun X _ => X = .pointer (some ⟨w.heap.size, 3, none⟩), fun X _ => X = .slice (some ⟨b, off, none⟩) c.blocks.length bcap, fun X _ => X = .int .i64 k, fun X _ => X = .pointer (some ⟨b, off + k * 3, none⟩), fun X _ => X = .pointer (some ⟨b, off + k * 3 + 2, none⟩), fun X _ => X = .int .i64 (m : Int), fun X _ => X = .string DN, fun X _ => X = .string ((KWD ++ ⟨#[32]⟩) ++ DN), fun X _ => X = .string (((KWD ++ ⟨#[32]⟩) ++ DN) ++ ⟨#[10]⟩)] (by kernel_rfl) (by kernel_rfl) ⟨RG.stable_eq _, fun X w0 w1 hn k27 => Rd.new k27 hn, RG.stable_eq _, RG.stable_eq _, RG.stable_eq _, RG.stable_eq _, RG.stable_eq _, RG.stable_eq _, RG.stable_eq _, RG.stable_eq _, fun X w0 w1 hn k36 => k36.new hn, RG.stable_eq _, RG.stable_eq _, RG.stable_eq _, RG.stable_eq _, RG.stable_eq _, RG.stable_eq _, RG.stable_eq _, RG.stable_eq _, RG.stable_eq _, RG.stable_eq _, RG.stable_eq _, trivial⟩ ?_ ?_
      · refine ⟨?_, ?_, ?_, ?_, ?_, ?_, ?_, ?_, ?_, ?_, ?_, ?_, ?_, ?_, ?_, ?_, ?_, ?_, ?_, ?_, ?_, ?_, trivial⟩
        · intro a w9 hw ho hk
          refine .inl ⟨by rfl, ?_⟩
          have t2 := ho 3 rfl
          dsimp at t2
          try with_reducible replace hw := New.undrawN hw
          try with_reducible replace hw := New.undraw hw
          obtain ⟨c, f'⟩ := hw.rules
          go_simp
          exact New.refl _
        · intro a w9 hw ho hk
          refine .inl ⟨by rfl, ?_⟩
          go_simp; refine (sKeywords_any _).mono ?_; rintro e w3 ⟨u, rfl, hb, hu⟩; first | exact ⟨hb, _, rfl, hu⟩ | exact ⟨hb, hu⟩
        · intro a w9 hw ho hk
          refine .inl ⟨by rfl, ?_⟩
          have t2 := ho 1 rfl
          dsimp at t2
          try with_reducible replace hw := New.undrawN hw
          try with_reducible replace hw := New.undraw hw
          obtain ⟨c, f'⟩ := hw.rules
          go_simp
          exact New.refl _
        · intro a w9 hw ho hk
          refine .inl ⟨by rfl, ?_⟩
          have t28 : a.tmps[28]?.getD undef = .pointer (some ⟨w.heap.size, 3, none⟩) := hk 2 28 (by kernel_rfl) rfl
          try with_reducible replace hw := New.undrawN hw
          try with_reducible replace hw := New.undraw hw
          obtain ⟨c, f'⟩ := hw.rules
          go_simp
          exact New.refl _
        · intro a w9 hw ho hk
          refine .inl ⟨by rfl, ?_⟩
          have t2 := ho 4 rfl
          dsimp at t2
          try with_reducible replace hw := New.undrawN hw
          try with_reducible replace hw := New.undraw hw
          obtain ⟨c, f'⟩ := hw.rules
          go_simp
          exact New.refl _
        · intro a w9 hw ho hk
          refine .inl ⟨by rfl, ?_⟩
          have t29 : a.tmps[29]?.getD undef = .slice (some ⟨b, off, none⟩) c.blocks.length bcap := hk 3 29 (by kernel_rfl) rfl
          have t30 : a.tmps[30]?.getD undef = .int .i64 k := hk 4 30 (by kernel_rfl) rfl
          go_simp
          exact New.refl _
        · intro a w9 hw ho hk
          refine .inl ⟨by rfl, ?_⟩
          have t31 : a.tmps[31]?.getD undef = .pointer (some ⟨b, off + k * 3, none⟩) := hk 5 31 (by kernel_rfl) rfl
          go_simp
          exact New.refl _
        · intro a w9 hw ho hk
          refine .inl ⟨by rfl, ?_⟩
          have t32 : a.tmps[32]?.getD undef = .pointer (some ⟨b, off + k * 3, none⟩) := hk 6 32 (by kernel_rfl) rfl
          try with_reducible replace hw := New.undrawN hw
          try with_reducible replace hw := New.undraw hw
          obtain ⟨c, f'⟩ := hw.rules
          go_simp
          exact New.refl _
        · intro a w9 hw ho hk
          refine .inl ⟨by rfl, ?_⟩
          have t33 : a.tmps[33]?.getD undef = .int .i64 ((i : Int) + 7) := hk 7 33 (by kernel_rfl) rfl
          go_simp
          exact New.refl _
        · intro a w9 hw ho hk
          refine .inl ⟨by rfl, ?_⟩
          have t34 : a.tmps[34]?.getD undef = .int .i64 (i : Int) := hk 8 34 (by kernel_rfl) rfl
          go_simp
          exact New.refl _
        · intro a w9 hw ho hk
          refine .inl ⟨by rfl, ?_⟩
          obtain k27 : RdS w9 (a.tmps[27]?.getD undef) keys := hk 1 27 (by kernel_rfl) rfl
          have t35 : a.tmps[35]?.getD undef = .int .i64 ((i : Int) + 11) := hk 9 35 (by kernel_rfl) rfl
          obtain ⟨b3, o3, cap3, t27, l3, x3⟩ := HKY.out _ _ k27; go_simp; first | exact ⟨New.refl _, _, rfl, b3, _, rfl, l3, x3⟩ | exact ⟨New.refl _, b3, _, rfl, l3, x3⟩
        · intro a w9 hw ho hk
          refine .inl ⟨by rfl, ?_⟩
          obtain k36 : PtrTo w9 (a.tmps[36]?.getD undef) (.string KWD) := hk 10 36 (by kernel_rfl) rfl
          obtain ⟨b35, o35, t35, l35, c35⟩ := k36; go_simp; exact New.refl _
        · intro a w9 hw ho hk
          refine .inl ⟨by rfl, ?_⟩
          have t37 : a.tmps[37]?.getD undef = .string KWD := hk 11 37 (by kernel_rfl) rfl
          go_simp
          exact New.refl _
        · intro a w9 hw ho hk
          refine .inl ⟨by rfl, ?_⟩
          have t2 := ho 1 rfl
          dsimp at t2
          try with_reducible replace hw := New.undrawN hw
          try with_reducible replace hw := New.undraw hw
          obtain ⟨c, f'⟩ := hw.rules
          go_simp
          exact New.refl _
        · intro a w9 hw ho hk
          refine .inl ⟨by rfl, ?_⟩
          have t39 : a.tmps[39]?.getD undef = .pointer (some ⟨w.heap.size, 3, none⟩) := hk 13 39 (by kernel_rfl) rfl
          try with_reducible replace hw := New.undrawN hw
          try with_reducible replace hw := New.undraw hw
          obtain ⟨c, f'⟩ := hw.rules
          go_simp
          exact New.refl _
        · intro a w9 hw ho hk
          refine .inl ⟨by rfl, ?_⟩
          have t2 := ho 4 rfl
          dsimp at t2
          try with_reducible replace hw := New.undrawN hw
          try with_reducible replace hw := New.undraw hw
          obtain ⟨c, f'⟩ := hw.rules
          go_simp
          exact New.refl _
        · intro a w9 hw ho hk
          refine .inl ⟨by rfl, ?_⟩
          have t40 : a.tmps[40]?.getD undef = .slice (some ⟨b, off, none⟩) c.blocks.length bcap := hk 14 40 (by kernel_rfl) rfl
          have t41 : a.tmps[41]?.getD undef = .int .i64 k := hk 15 41 (by kernel_rfl) rfl
          go_simp
          exact New.refl _
        · intro a w9 hw ho hk
          refine .inl ⟨by rfl, ?_⟩
          have t42 : a.tmps[42]?.getD undef = .pointer (some ⟨b, off + k * 3, none⟩) := hk 16 42 (by kernel_rfl) rfl
          go_simp
          exact New.refl _
        · intro a w9 hw ho hk
          refine .inl ⟨by rfl, ?_⟩
          have t43 : a.tmps[43]?.getD undef = .pointer (some ⟨b, off + k * 3 + 2, none⟩) := hk 17 43 (by kernel_rfl) rfl
          try with_reducible replace hw := New.undrawN hw
          try with_reducible replace hw := New.undraw hw
          obtain ⟨c, f'⟩ := hw.rules
          go_simp
          exact New.refl _
        · intro a w9 hw ho hk
          refine .inl ⟨by rfl, ?_⟩
          have t44 : a.tmps[44]?.getD undef = .int .i64 (m : Int) := hk 18 44 (by kernel_rfl) rfl
          go_simp
          refine (HDM.out _).mono ?_; rintro e w2 ⟨rfl, hb⟩
          first | exact ⟨hb, _, rfl, by simp⟩ | exact ⟨hb, by simp⟩
        · intro a w9 hw ho hk
          refine .inl ⟨by rfl, ?_⟩
          have t38 : a.tmps[38]?.getD undef = .string (KWD ++ ⟨#[32]⟩) := hk 12 38 (by kernel_rfl) rfl
          have t45 : a.tmps[45]?.getD undef = .string DN := hk 19 45 (by kernel_rfl) rfl
          go_simp
          exact New.refl _
        · intro a w9 hw ho hk
          refine .inl ⟨by rfl, ?_⟩
          have t46 : a.tmps[46]?.getD undef = .string ((KWD ++ ⟨#[32]⟩) ++ DN) := hk 20 46 (by kernel_rfl) rfl
          go_simp
          exact New.refl _
      intro w4 b4 x0' h0' x1' h1' x2' h2' x3' h3' x4' h4' x5' h5' x6' h6' x7' h7' x8' h8' x9' h9' x10' h10' x11' h11' x12' h12' x13' h13' x14' h14' x15' h15' x16' h16' x17' h17' x18' h18' x19' h19' x20' h20' x21' h21'
      subst h0' h2' h3' h4' h5' h6' h7' h8' h9' h11' h12' h13' h14' h15' h16' h17' h18' h19' h20' h21'
      try with_reducible replace b4 := New.undrawN b4
      try with_reducible replace b4 := New.undraw b4
      obtain ⟨c4, f4⟩ := b4.rules
      have z4 := b4.size
      try simp only [World.size_alloc, World.size_drew, World.heap_drewN, World.size_setCell] at z4
      simp only [RG.EndAll, List.nil_append, List.cons_append, List.length_cons, List.length_nil, Nat.zero_add, Nat.reduceAdd, List.take_succ_cons, List.take_zero, List.drop_succ_cons, List.drop_zero, RG.putAll, Act.put, List.setIfInBounds_toArray, List.set_cons_succ, List.set_cons_zero]
      have hown4 := hown.new b4
      have m4 := hN.trans b4
      have m4z := m4.size
      rw [World.size_alloc] at m4z
      clear hown
      go_wp2_with (at_builtin; refine wpList_append_M rfl _ _ rfl (w.heap.size + 1) _ _ rfl hown4 (((KWD ++ ⟨#[32]⟩) ++ DN) ++ ⟨#[10]⟩) rfl (by rw [hsz]; omega) (by omega) ?_; intro va wa owa hga)
      have m5 := New.grown m4 hga (fun q hq => by obtain ⟨gg, cc, rfl, hr⟩ := hown4; cases hq; rw [World.size_alloc]; exact hr.hb)
      rw [HQ.out] at owa
      go_roundw
      case rel => exact ⟨k + 1, by omega, by go_num, m5, owa⟩
      case measure => simp [intOf]; omega
    · obtain rfl : k = c.blocks.length := by omega
      have hNz := hN.size
      rw [World.size_alloc] at hNz
      have hlen := HLB.out c.blocks.length (Nat.le_refl _)
      have xb : wr.cell? ⟨w.heap.size, 3, none⟩ = some (.slice ba c.blocks.length bcap) := (hN.cell (by simp)).trans (cell_alloc_new _ _ _ _ _ rfl)
      clear cN fN
      have h2s : (⟨#[45, 10]⟩ : ByteArray).size = 2 := rfl
      go_wp2_with (at_builtin; refine wpList_append_M rfl _ _ rfl (w.heap.size + 1) _ _ rfl hown ⟨#[45, 10]⟩ rfl (by rw [h2s]; omega) (by omega) ?_; intro va wa owa hga)
      have m5 := New.grown hN hga (fun q hq => by obtain ⟨gg, cc, rfl, hr⟩ := hown; cases hq; rw [World.size_alloc]; exact hr.hb)
      rw [show ctB c c.blocks.length ++ (⟨#[45, 10]⟩ : ByteArray).data.toList = ctS c 0 by simp [ctS]] at owa
      clear hown hga
      go_loopw [3, 5] (fun o i wr => ∃ k : Nat, k ≤ c.steps.length ∧ i = .int .i64 k ∧ New (w.alloc (.cells #[.int .i64 c.ins, .int .i64 c.vars, .int .i64 c.outs, .slice ba c.blocks.length bcap, .slice sa c.steps.length scap] 27)) wr ∧ OwnM (w.heap.size + 1) wr o (ctS c k)) (fun _ i _ => c.steps.length - (intOf i).toNat)
      case atStart => exact ⟨0, Nat.zero_le _, rfl, m5, owa⟩
      case round =>
        clear xb hN m5 owa hNz
        obtain ⟨k, hk, rfl, hN, hown⟩ := hrel
        have hNz := hN.size
        rw [World.size_alloc] at hNz
        have hNw : New w wr := ((New.refl w).alloc _).trans hN
        have hbx : w.heap.size < wr.heap.size := by omega
        have xb : wr.cell? ⟨w.heap.size, 4, none⟩ = some (.slice sa c.steps.length scap) := (hN.cell (by simp)).trans (cell_alloc_new _ _ _ _ _ rfl)
        by_cases hlt : k < c.steps.length
        · obtain ⟨b, off, rfl, hbl, hx⟩ := HS.out k hlt
          have hbr : b < wr.heap.size := by omega
          have x0 : wr.cell? ⟨b, off + k * 2, none⟩ = some (.int .i64 c.steps[k].op) := (hNw.cell hbl).trans (hx 0 _ (by omega) rfl)
          have x1 : wr.cell? ⟨b, off + k * 2 + 1, none⟩ = some (.int .i64 c.steps[k].arg) := (hNw.cell hbl).trans (hx 1 _ (by omega) rfl)
          clear hx
          obtain ⟨e1, e2⟩ := HST.out c.steps[k] (List.getElem_mem hlt)
          have HX := Lib.hid (ctS_next hlt)
          have hlen2 := HLS.out k hk
          rw [sline] at HX
          generalize c.steps[k].op = op at x0 e1 HX
          generalize c.steps[k].arg = q at x1 e2 HX
          unfold NumOk at e1 e2
          obtain ⟨m1, rfl⟩ := Int.eq_ofNat_of_zero_le e1.1
          obtain ⟨m2, rfl⟩ := Int.eq_ofNat_of_zero_le e2.1
          have hz1 := dec_len 6 m1 (by omega)
          have hz2 := dec_len 6 m2 (by omega)
          rw [← strL_size] at hz1 hz2
          have HD1 := Lib.hid (fun (w0 : World) => sDec_any m1 w0 (by omega))
          have HD2 := Lib.hid (fun (w0 : World) => sDec_any m2 w0 (by omega))
          have HL1 := Lib.hid (strL_list (Lib.decDigits m1))
          have HL2 := Lib.hid (strL_list (Lib.decDigits m2))
          rw [Int.toNat_natCast, Int.toNat_natCast] at HX
          generalize strL (Lib.decDigits m1) = D1 at hz1 HD1 HL1
          generalize strL (Lib.decDigits m2) = D2 at hz2 HD2 HL2
          rw [← HL1.out, ← HL2.out] at HX
          have hsz : (((D1 ++ ⟨#[32]⟩) ++ D2) ++ ⟨#[10]⟩ : ByteArray).size = D1.size + 1 + D2.size + 1 := by
            have h9 : (⟨#[10]⟩ : ByteArray).size = 1 := rfl
            have h8 : (⟨#[32]⟩ : ByteArray).size = 1 := rfl
            rw [ByteArray.size_append, ByteArray.size_append, ByteArray.size_append, h9, h8]
          have HQ := Lib.hid (show ctS c k ++ (((D1 ++ ⟨#[32]⟩) ++ D2) ++ ⟨#[10]⟩ : ByteArray).data.toList = ctS c (k + 1) by
            rw [HX.out, ByteArray.data_append, ByteArray.data_append, ByteArray.data_append]; simp)
          clear HX
          have g1 : ¬ (9223372036854775807 < D1.size + 1) := by omega
          have g2 : ¬ (9223372036854775807 < D1.size + 1 + D2.size) := by omega
          have g3 : ¬ (9223372036854775807 < D1.size + 1 + D2.size + 1) := by omega
          have gk : (k : Int) < (c.steps.length : Int) := by omega
          go_wp2_with fail
          refine RG.wp_facts [fun X _ => X = u3, fun X _ => X = .pointer (some ⟨w.heap.size, 4, none⟩), fun X _ => X = .slice (some ⟨b, off, none⟩) c.steps.length scap, fun X _ => X = .int .i64 k, fun X _ => X = .pointer (some ⟨b, off + k * 2, none⟩), fun X _ => X = .pointer (some ⟨b, off + k * 2, none⟩), fun X _ => X = .int .i64 (m1 : Int), fun X _ => X = .string D1, fun X _ => X = .string (D1 ++ ⟨#[32]⟩), fun X _ => X = .pointer (some ⟨w.heap.size, 4, none⟩), fun X _ => X = .slice (some ⟨b, off, none⟩) c.steps.length scap, fun X _ => X = .int .i64 k, fun X _ => X = .pointer (some ⟨b, off + k * 2, none⟩), fun X _ => X = .pointer (some ⟨b, off + k * 2 + 1, none⟩), fun X _ => X = .int .i64 (m2 : Int), fun X _ => X = .string D2, fun X _ => X = .string ((D1 ++ ⟨#[32]⟩) ++ D2), fun X _ => X = .string (((D1 ++ ⟨#[32]⟩) ++ D2) ++ ⟨#[10]⟩)] (by kernel_rfl) (by kernel_rfl) ⟨RG.stable_eq _, RG.stable_eq _, RG.stable_eq _, RG.stable_eq _, RG.stable_eq _, RG.stable_eq _, RG.stable_eq _, RG.stable_eq _, RG.stable_eq _, RG.stable_eq _, RG.stable_eq _, RG.stable_eq _, RG.stable_eq _, RG.stable_eq _, RG.stable_eq _, RG.stable_eq _, RG.stable_eq _, RG.stable_eq _, trivial⟩ ?_ ?_
          · refine ⟨?_, ?_, ?_, ?_, ?_, ?_, ?_, ?_, ?_, ?_, ?_, ?_, ?_, ?_, ?_, ?_, ?_, ?_, trivial⟩
            · intro a w9 hw ho hk
              refine .inl ⟨by rfl, ?_⟩
              have t2 := ho 3 rfl
              dsimp at t2
              try with_reducible replace hw := New.undrawN hw
              try with_reducible replace hw := New.undraw hw
              obtain ⟨c, f'⟩ := hw.rules
              go_simp
              exact New.refl _
            · intro a w9 hw ho hk
              refine .inl ⟨by rfl, ?_⟩
              have t2 := ho 1 rfl
              dsimp at t2
              try with_reducible replace hw := New.undrawN hw
              try with_reducible replace hw := New.undraw hw
              obtain ⟨c, f'⟩ := hw.rules
              go_simp
              exact New.refl _
            · intro a w9 hw ho hk
              refine .inl ⟨by rfl, ?_⟩
              have t59 : a.tmps[59]?.getD undef = .pointer (some ⟨w.heap.size, 4, none⟩) := hk 1 59 (by kernel_rfl) rfl
              try with_reducible replace hw := New.undrawN hw
              try with_reducible replace hw := New.undraw hw
              obtain ⟨c, f'⟩ := hw.rules
              go_simp
              exact New.refl _
            · intro a w9 hw ho hk
              refine .inl ⟨by rfl, ?_⟩
              have t2 := ho 5 rfl
              dsimp at t2
              try with_reducible replace hw := New.undrawN hw
              try with_reducible replace hw := New.undraw hw
              obtain ⟨c, f'⟩ := hw.rules
              go_simp
              exact New.refl _
            · intro a w9 hw ho hk
              refine .inl ⟨by rfl, ?_⟩
              have t60 : a.tmps[60]?.getD undef = .slice (some ⟨b, off, none⟩) c.steps.length scap := hk 2 60 (by kernel_rfl) rfl
              have t61 : a.tmps[61]?.getD undef = .int .i64 k := hk 3 61 (by kernel_rfl) rfl
              go_simp
              exact New.refl _
            · intro a w9 hw ho hk
              refine .inl ⟨by rfl, ?_⟩
              have t62 : a.tmps[62]?.getD undef = .pointer (some ⟨b, off + k * 2, none⟩) := hk 4 62 (by kernel_rfl) rfl
              go_simp
              exact New.refl _
            · intro a w9 hw ho hk
              refine .inl ⟨by rfl, ?_⟩
              have t63 : a.tmps[63]?.getD undef = .pointer (some ⟨b, off + k * 2, none⟩) := hk 5 63 (by kernel_rfl) rfl
              try with_reducible replace hw := New.undrawN hw
              try with_reducible replace hw := New.undraw hw
              obtain ⟨c, f'⟩ := hw.rules
              go_simp
              exact New.refl _
            · intro a w9 hw ho hk
              refine .inl ⟨by rfl, ?_⟩
              have t64 : a.tmps[64]?.getD undef = .int .i64 (m1 : Int) := hk 6 64 (by kernel_rfl) rfl
              go_simp
              refine (HD1.out _).mono ?_; rintro e w2 ⟨rfl, hb⟩
              first | exact ⟨hb, _, rfl, by simp⟩ | exact ⟨hb, by simp⟩
            · intro a w9 hw ho hk
              refine .inl ⟨by rfl, ?_⟩
              have t65 : a.tmps[65]?.getD undef = .string D1 := hk 7 65 (by kernel_rfl) rfl
              go_simp
              exact New.refl _
            · intro a w9 hw ho hk
              refine .inl ⟨by rfl, ?_⟩
              have t2 := ho 1 rfl
              dsimp at t2
              try with_reducible replace hw := New.undrawN hw
              try with_reducible replace hw := New.undraw hw
              obtain ⟨c, f'⟩ := hw.rules
              go_simp
              exact New.refl _
            · intro a w9 hw ho hk
              refine .inl ⟨by rfl, ?_⟩
              have t67 : a.tmps[67]?.getD undef = .pointer (some ⟨w.heap.size, 4, none⟩) := hk 9 67 (by kernel_rfl) rfl
              try with_reducible replace hw := New.undrawN hw
              try with_reducible replace hw := New.undraw hw
              obtain ⟨c, f'⟩ := hw.rules
              go_simp
              exact New.refl _
            · intro a w9 hw ho hk
              refine .inl ⟨by rfl, ?_⟩
              have t2 := ho 5 rfl
              dsimp at t2
              try with_reducible replace hw := New.undrawN hw
              try with_reducible replace hw := New.undraw hw
              obtain ⟨c, f'⟩ := hw.rules
              go_simp
              exact New.refl _
            · intro a w9 hw ho hk
              refine .inl ⟨by rfl, ?_⟩
              have t68 : a.tmps[68]?.getD undef = .slice (some ⟨b, off, none⟩) c.steps.length scap := hk 10 68 (by kernel_rfl) rfl
              have t69 : a.tmps[69]?.getD undef = .int .i64 k := hk 11 69 (by kernel_rfl) rfl
              go_simp
              exact New.refl _
            · intro a w9 hw ho hk
              refine .inl ⟨by rfl, ?_⟩
              have t70 : a.tmps[70]?.getD undef = .pointer (some ⟨b, off + k * 2, none⟩) := hk 12 70 (by kernel_rfl) rfl
              go_simp
              exact New.refl _
            · intro a w9 hw ho hk
              refine .inl ⟨by rfl, ?_⟩
              have t71 : a.tmps[71]?.getD undef = .pointer (some ⟨b, off + k * 2 + 1, none⟩) := hk 13 71 (by kernel_rfl) rfl
              try with_reducible replace hw := New.undrawN hw
              try with_reducible replace hw := New.undraw hw
              obtain ⟨c, f'⟩ := hw.rules
              go_simp
              exact New.refl _
            · intro a w9 hw ho hk
              refine .inl ⟨by rfl, ?_⟩
              have t72 : a.tmps[72]?.getD undef = .int .i64 (m2 : Int) := hk 14 72 (by kernel_rfl) rfl
              go_simp
              refine (HD2.out _).mono ?_; rintro e w2 ⟨rfl, hb⟩
              first | exact ⟨hb, _, rfl, by simp⟩ | exact ⟨hb, by simp⟩
            · intro a w9 hw ho hk
              refine .inl ⟨by rfl, ?_⟩
              have t66 : a.tmps[66]?.getD undef = .string (D1 ++ ⟨#[32]⟩) := hk 8 66 (by kernel_rfl) rfl
              have t73 : a.tmps[73]?.getD undef = .string D2 := hk 15 73 (by kernel_rfl) rfl
              go_simp
              exact New.refl _
            · intro a w9 hw ho hk
              refine .inl ⟨by rfl, ?_⟩
              have t74 : a.tmps[74]?.getD undef = .string ((D1 ++ ⟨#[32]⟩) ++ D2) := hk 16 74 (by kernel_rfl) rfl
              go_simp
              exact New.refl _
          intro w4 b4 x0' h0' x1' h1' x2' h2' x3' h3' x4' h4' x5' h5' x6' h6' x7' h7' x8' h8' x9' h9' x10' h10' x11' h11' x12' h12' x13' h13' x14' h14' x15' h15' x16' h16' x17' h17'
          subst h0' h1' h2' h3' h4' h5' h6' h7' h8' h9' h10' h11' h12' h13' h14' h15' h16' h17'
          try with_reducible replace b4 := New.undrawN b4
          try with_reducible replace b4 := New.undraw b4
          obtain ⟨c4, f4⟩ := b4.rules
          have z4 := b4.size
          try simp only [World.size_alloc, World.size_drew, World.heap_drewN, World.size_setCell] at z4
          simp only [RG.EndAll, List.nil_append, List.cons_append, List.length_cons, List.length_nil, Nat.zero_add, Nat.reduceAdd, List.take_succ_cons, List.take_zero, List.drop_succ_cons, List.drop_zero, RG.putAll, Act.put, List.setIfInBounds_toArray, List.set_cons_succ, List.set_cons_zero]
          have hown4 := hown.new b4
          have m4 := hN.trans b4
          have m4z := m4.size
          rw [World.size_alloc] at m4z
          clear hown
          go_wp2_with (at_builtin; refine wpList_append_M rfl _ _ rfl (w.heap.size + 1) _ _ rfl hown4 (((D1 ++ ⟨#[32]⟩) ++ D2) ++ ⟨#[10]⟩) rfl (by rw [hsz]; omega) (by omega) ?_; intro va wa owa hga)
          have m5 := New.grown m4 hga (fun q hq => by obtain ⟨gg, cc, rfl, hr⟩ := hown4; cases hq; rw [World.size_alloc]; exact hr.hb)
          rw [HQ.out] at owa
          go_roundw
          case rel => exact ⟨k + 1, by omega, by go_num, m5, owa⟩
          case measure => simp [intOf]; omega
        · obtain rfl : k = c.steps.length := by omega
          have hcv := hown.conv
          go_wp2_with fail
          go_ret
          exact ⟨rfl, hNw⟩
end Go.Proofs.YteielmihlfakgaaGreatDoor
