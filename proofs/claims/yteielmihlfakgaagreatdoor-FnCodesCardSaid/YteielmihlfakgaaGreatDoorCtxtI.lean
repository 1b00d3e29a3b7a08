/- Contracts: texts of codes: the program. -/
import Derived.Deep.RegionHeld3
import Derived.Deep.AppendLies
import Derived.Deep.DrawnRows
import Derived.Test.YteielmihlfakgaaGreatDoorProg
import Derived.Test.YteielmihlfakgaaGreatDoorVD
import Derived.Test.YteielmihlfakgaaGreatDoorBldW
import Derived.Test.YteielmihlfakgaaGreatDoorUD
namespace Go.Proofs.YteielmihlfakgaaGreatDoor
open Go Go.Proofs Go.RowKit
set_option linter.unusedVariables false
set_option linter.unusedSimpArgs false
set_option maxRecDepth 100000
theorem keep3 {w w' : World} {b : Nat} {x y z : Value} (hn : New w w') (hb : b < w.heap.size) (h : w.cell? ⟨b, 0, none⟩ = some x ∧ w.cell? ⟨b, 1, none⟩ = some y ∧ w.cell? ⟨b, 2, none⟩ = some z) : w'.cell? ⟨b, 0, none⟩ = some x ∧ w'.cell? ⟨b, 1, none⟩ = some y ∧ w'.cell? ⟨b, 2, none⟩ = some z :=
  ⟨(hn.cell hb).trans h.1, (hn.cell hb).trans h.2.1, (hn.cell hb).trans h.2.2⟩
theorem keep2 {w w' : World} {b : Nat} {x y : Value} (hn : New w w') (hb : b < w.heap.size) (h : w.cell? ⟨b, 0, none⟩ = some x ∧ w.cell? ⟨b, 1, none⟩ = some y) : w'.cell? ⟨b, 0, none⟩ = some x ∧ w'.cell? ⟨b, 1, none⟩ = some y :=
  ⟨(hn.cell hb).trans h.1, (hn.cell hb).trans h.2⟩
set_option maxHeartbeats 4000000 in
theorem iCodeT_any (c : CodeD) (bv sv : Value) (w : World) (hb : RdT w bv c.blocks) (hs : RdN w sv c.steps) (hc : isCodeB c = true) (hk : KW w) (hp : PW w) :
    Calls Tryz.prog 24 #[valC c bv sv] w fun e w' => e = .returned (.string (strL (ctS c c.steps.length))) ∧ New w w' := by
  have HK := Lib.hid hk
  have HP := Lib.hid hp
  obtain ⟨h1, h2, h3⟩ := code_head hc
  have HN := Lib.hid h1
  have HBK := Lib.hid (code_blocks hc)
  have HST := Lib.hid (code_steps hc)
  obtain ⟨ba, bcap, rfl, hbm, HB⟩ := Rd.flat encTerm_len (by omega) hb
  obtain ⟨sa, scap, rfl, hsm, HS⟩ := Rd.flat encInstruction_len (by omega) hs
  have hj := jn_len h1 3 (by simp)
  rw [List.take_of_length_le (by simp), ← strL_size] at hj
  have HLB := Lib.hid (ctB_len hc)
  have HLS := Lib.hid (ctS_len hc)
  clear hb hs hc hk hp h1
  have HD := Lib.hid (fun (x : Int) (h : NumOk x) (w0 : World) (hw : New w w0) => by
    unfold NumOk at h
    have h1 := iDecimal_any x w0 (by omega) (by omega) (HP.out.new hw)
    rw [itoa_nn h.1] at h1
    exact h1)
  go_enter Tryz.func24, Tryz.ntmps24
  go_wp2_with fail
  have bd0 := bld_fresh (w.alloc (.cells #[.int .i64 c.ins, .int .i64 c.vars, .int .i64 c.outs, .slice ba c.blocks.length bcap, .slice sa c.steps.length scap] 27))
  rw [World.size_alloc] at bd0
  refine (iJoin_any _ [c.ins, c.vars, c.outs] _ (by have := rdI_lay3 ((w.alloc (.cells #[.int .i64 c.ins, .int .i64 c.vars, .int .i64 c.outs, .slice ba c.blocks.length bcap, .slice sa c.steps.length scap] 27)).alloc (.cells #[.pointer none, .slice none 0 0] 106)) c.ins c.vars c.outs 2; rw [World.size_alloc, World.size_alloc] at this; exact this) HN.out (by simp) (by simp) (HP.out.new (by repeat (first | with_reducible exact New.refl _ | with_reducible assumption | with_reducible refine New.drew ?_ | with_reducible refine New.drewN ?_ _ | with_reducible refine New.alloc ?_ _ | with_reducible refine New.setCell ?_ (by first | (simp; done) | (simp; omega) | omega) _ | with_reducible refine New.trans ?_ (by with_reducible assumption))))).mono ?_
  rintro e w1 ⟨rfl, n1⟩
  have bd1 := (bd0.new ((New.refl _).alloc _)).new n1
  have m1 := (((New.refl (w.alloc (.cells #[.int .i64 c.ins, .int .i64 c.vars, .int .i64 c.outs, .slice ba c.blocks.length bcap, .slice sa c.steps.length scap] 27))).alloc (.cells #[.pointer none, .slice none 0 0] 106)).alloc (.cells #[.int .i64 c.ins, .int .i64 c.vars, .int .i64 c.outs] 2)).trans n1
  clear n1 bd0
  have g1 : ¬ (9223372036854775807 < (strL (jn [c.ins, c.vars, c.outs])).size + 1) := by omega
  have hq0 : ([] : List UInt8).length + (strL (jn [c.ins, c.vars, c.outs]) ++ ⟨#[10]⟩).size ≤ 1000000000 := by
    have h9 : (⟨#[10]⟩ : ByteArray).size = 1 := rfl
    rw [ByteArray.size_append, h9, List.length_nil]; omega
  have hq1 : ([] : List UInt8) ++ (strL (jn [c.ins, c.vars, c.outs]) ++ ⟨#[10]⟩).data.toList = ctB c 0 := by
    rw [ctB, head3, ByteArray.data_append, Array.toList_append, strL_list]; simp
  have HW := Lib.hid (bWriteString (w.heap.size + 1) [] (strL (jn [c.ins, c.vars, c.outs]) ++ ⟨#[10]⟩) w1 bd1 hq0)
  rw [hq1] at HW
  generalize strL (jn [c.ins, c.vars, c.outs]) = JN at HW g1
  clear hq0 hq1
  go_wp2_with fail
  refine HW.out.mono ?_
  rintro e w2 ⟨rfl, bd2, be2, _⟩
  have be3 : Below (w.alloc (.cells #[.int .i64 c.ins, .int .i64 c.vars, .int .i64 c.outs, .slice ba c.blocks.length bcap, .slice sa c.steps.length scap] 27)).heap.size w1 w2 := by rw [World.size_alloc]; exact be2
  have m2 := Below.trans m1 be3
  clear HW m1 bd1 be2 be3
  replace m2 : New (w.alloc (.cells #[.int .i64 c.ins, .int .i64 c.vars, .int .i64 c.outs, .slice ba c.blocks.length bcap, .slice sa c.steps.length scap] 27)) w2 := m2
  obtain ⟨c2, f2⟩ := m2.rules
  go_wp2_with fail
  go_loopw [21] (fun i wr => ∃ k : Nat, k ≤ c.blocks.length ∧ i = .int .i64 k ∧ New (w.alloc (.cells #[.int .i64 c.ins, .int .i64 c.vars, .int .i64 c.outs, .slice ba c.blocks.length bcap, .slice sa c.steps.length scap] 27)) wr ∧ Bld (w.heap.size + 1) wr (ctB c k)) (fun i _ => c.blocks.length - (intOf i).toNat)
  case atStart => exact ⟨0, Nat.zero_le _, rfl, m2, bd2⟩
  case round =>
    obtain ⟨k, hk, rfl, hN, hbd⟩ := hrel
    clear bd2 m2 c2 f2
    by_cases hlt : k < c.blocks.length
    · have hNz := hN.size
      rw [World.size_alloc] at hNz
      have hNw : New w wr := ((New.refl w).alloc _).trans hN
      obtain ⟨b, off, rfl, hbl, hx⟩ := HB.out k hlt
      have hbr : b < wr.heap.size := by omega
      have x0 : wr.cell? ⟨b, off + k * 3, none⟩ = some (.int .i64 c.blocks[k].kind) := (hNw.cell hbl).trans (hx 0 _ (by omega) rfl)
      have x1 : wr.cell? ⟨b, off + k * 3 + 1, none⟩ = some (.string c.blocks[k].name) := (hNw.cell hbl).trans (hx 1 _ (by omega) rfl)
      have x2 : wr.cell? ⟨b, off + k * 3 + 2, none⟩ = some (.int .i64 c.blocks[k].num) := (hNw.cell hbl).trans (hx 2 _ (by omega) rfl)
      clear hx
      obtain ⟨e1, e2, e3, e4⟩ := HBK.out c.blocks[k] (List.getElem_mem hlt)
      have HX := Lib.hid (ctB_next hlt)
      have hlen := HLB.out k hk
      rw [bline] at HX
      generalize c.blocks[k].kind = kd at x0 e1 e2 HX
      generalize c.blocks[k].name = nm at x1
      generalize c.blocks[k].num = q at x2 e3 e4 HX
      have hz1 := (kwOf_size e1 e2).2
      obtain ⟨m, rfl⟩ := Int.eq_ofNat_of_zero_le e3
      have hz2 := dec_len 3 m (by omega)
      rw [← strL_size] at hz2
      have HBW := Lib.hid (fun (w0 : World) (h : KW w0) => iBlockWord_any kd nm (m : Int) w0 e1 e2 h)
      have HDM := Lib.hid (fun (w0 : World) (hw : New w w0) => HD.out (m : Int) ⟨e3, by omega⟩ w0 hw)
      have HL := Lib.hid (strL_list (Lib.decDigits m))
      rw [Int.toNat_natCast] at HX HDM
      have hl1 : (kwOf kd).data.toList.length = (kwOf kd).size := by rw [Array.length_toList]; rfl
      generalize kwOf kd = KWD at hz1 HBW HX hl1
      generalize hDN : strL (Lib.decDigits m) = DN at hz2 HDM HL
      rw [← HL.out] at HX
      have hsz : (((KWD ++ ⟨#[32]⟩) ++ DN) ++ ⟨#[10]⟩ : ByteArray).size = KWD.size + 1 + DN.size + 1 := by
        have h9 : (⟨#[10]⟩ : ByteArray).size = 1 := rfl
        have h8 : (⟨#[32]⟩ : ByteArray).size = 1 := rfl
        rw [ByteArray.size_append, ByteArray.size_append, ByteArray.size_append, h9, h8]
      have hq : ctB c k ++ (((KWD ++ ⟨#[32]⟩) ++ DN) ++ ⟨#[10]⟩ : ByteArray).data.toList = ctB c (k + 1) := by
        rw [HX.out, ByteArray.data_append, ByteArray.data_append, ByteArray.data_append]; simp
      have HW := Lib.hid (fun (w0 : World) (h : Bld (w.heap.size + 1) w0 (ctB c k)) => bWriteString (w.heap.size + 1) (ctB c k) (((KWD ++ ⟨#[32]⟩) ++ DN) ++ ⟨#[10]⟩) w0 h (by rw [hsz]; omega))
      rw [hq] at HW
      clear hq hsz HX
      have g1 : ¬ (9223372036854775807 < KWD.size + 1) := by omega
      have g2 : ¬ (9223372036854775807 < KWD.size + 1 + DN.size) := by omega
      have g3 : ¬ (9223372036854775807 < KWD.size + 1 + DN.size + 1) := by omega
      have hBl := hbd.lt
      go_wp2_with fail
      have S0 : (wr.alloc (.cells #[.int .i64 kd, .string nm, .int .i64 m] 66)).cell? ⟨wr.heap.size, 0, none⟩ = some (.int .i64 kd) ∧ (wr.alloc (.cells #[.int .i64 kd, .string nm, .int .i64 m] 66)).cell? ⟨wr.heap.size, 1, none⟩ = some (.string nm) ∧ (wr.alloc (.cells #[.int .i64 kd, .string nm, .int .i64 m] 66)).cell? ⟨wr.heap.size, 2, none⟩ = some (.int .i64 m) := ⟨by rw [cell_alloc_new _ _ _ _ _ rfl]; rfl, by rw [cell_alloc_new _ _ _ _ _ rfl]; rfl, by rw [cell_alloc_new _ _ _ _ _ rfl]; rfl⟩
      have bdA := hbd.new ((New.refl wr).alloc (.cells #[.int .i64 kd, .string nm, .int .i64 m] 66))
      have zA : wr.heap.size < (wr.alloc (.cells #[.int .i64 kd, .string nm, .int .i64 m] 66)).heap.size := by rw [World.size_alloc]; omega
      have nA : New w (wr.alloc (.cells #[.int .i64 kd, .string nm, .int .i64 m] 66)) := hNw.alloc _
      have nb : wr.heap.size ≠ w.heap.size + 1 := by omega
      have nT : (66 : TypeId) ≠ 5 := by decide
      have nB := hN.alloc (.cells #[.int .i64 kd, .string nm, .int .i64 m] 66)
      go_region_held3 (fun w' => w'.cell? ⟨wr.heap.size, 0, none⟩ = some (.int .i64 kd) ∧ w'.cell? ⟨wr.heap.size, 1, none⟩ = some (.string nm) ∧ w'.cell? ⟨wr.heap.size, 2, none⟩ = some (.int .i64 m)) (first | go_keep | exact S0 | exact S1 | exact S2 | exact S3) ((first | ((go_at_call 67; refine (HBW.out _ (HK.out.new (by repeat (first | with_reducible exact New.refl _ | with_reducible assumption | with_reducible refine New.drew ?_ | with_reducible refine New.drewN ?_ _ | with_reducible refine New.alloc ?_ _ | with_reducible refine New.setCell ?_ (by first | (simp; done) | (simp; omega) | omega) _ | with_reducible refine New.trans ?_ (by with_reducible assumption))))).mono ?_; rintro e w3 ⟨rfl, n3⟩; (first | replace n3 := New.undraw n3 | skip); have S1 := keep3 n3 zA S0; have z3 := Nat.lt_of_lt_of_le zA n3.size)) | (go_at_call 68; refine (HDM.out _ (by repeat (first | with_reducible exact New.refl _ | with_reducible assumption | with_reducible refine New.drew ?_ | with_reducible refine New.drewN ?_ _ | with_reducible refine New.alloc ?_ _ | with_reducible refine New.setCell ?_ (by first | (simp; done) | (simp; omega) | omega) _ | with_reducible refine New.trans ?_ (by with_reducible assumption)))).mono ?_; rintro e w4 ⟨rfl, n4⟩; (first | replace n4 := New.undraw n4 | skip); have S2 := keep3 n4 z3 S1; have z4 := Nat.lt_of_lt_of_le z3 n4.size) | (go_at_call 65; refine (HW.out _ ((bdA.new n3).new n4)).mono ?_; rintro e w5 ⟨rfl, bd5, be5, kp5⟩; have hb5 := kp5 _ _ _ _ nb nT ((Below.block (n3.trans n4) wr.heap.size zA).trans (heap_alloc_new wr _)); have S3 : w5.cell? ⟨wr.heap.size, 0, none⟩ = some (.int .i64 kd) ∧ w5.cell? ⟨wr.heap.size, 1, none⟩ = some (.string nm) ∧ w5.cell? ⟨wr.heap.size, 2, none⟩ = some (.int .i64 m) := ⟨cell_heap hb5 (j := 0) rfl, cell_heap hb5 (j := 1) rfl, cell_heap hb5 (j := 2) rfl⟩)))
      have m5 : New (w.alloc (.cells #[.int .i64 c.ins, .int .i64 c.vars, .int .i64 c.outs, .slice (some ⟨b, off, none⟩) c.blocks.length bcap, .slice sa c.steps.length scap] 27)) w5 := by
        refine Below.trans ((nB.trans n3).trans n4) ?_
        rw [World.size_alloc]
        exact be5
      clear S0 S1 S2 S3
      go_wp2_with fail
      go_roundw
      case rel => exact ⟨k + 1, by omega, by go_num, m5, bd5⟩
      case measure => simp [intOf]; omega
    · obtain rfl : k = c.blocks.length := by omega
      have hNz := hN.size
      have hlenB := HLB.out c.blocks.length (Nat.le_refl _)
      have HW := Lib.hid (bWriteString (w.heap.size + 1) (ctB c c.blocks.length) ⟨#[45, 10]⟩ wr hbd (by show _ + 2 ≤ _; omega))
      rw [show ctB c c.blocks.length ++ (⟨#[45, 10]⟩ : ByteArray).data.toList = ctS c 0 by simp [ctS]] at HW
      obtain ⟨cN, fN⟩ := hN.rules
      go_wp2_with fail
      refine HW.out.mono ?_; rintro e w3 ⟨rfl, bd3, be3, _⟩
      have m3 : New (w.alloc (.cells #[.int .i64 c.ins, .int .i64 c.vars, .int .i64 c.outs, .slice ba c.blocks.length bcap, .slice sa c.steps.length scap] 27)) w3 := by
        refine Below.trans hN ?_
        rw [World.size_alloc]
        exact be3
      clear HW hbd
      obtain ⟨c3, f3⟩ := m3.rules
      go_wp2_with fail
      go_loopw [39] (fun i wr => ∃ k : Nat, k ≤ c.steps.length ∧ i = .int .i64 k ∧ New (w.alloc (.cells #[.int .i64 c.ins, .int .i64 c.vars, .int .i64 c.outs, .slice ba c.blocks.length bcap, .slice sa c.steps.length scap] 27)) wr ∧ Bld (w.heap.size + 1) wr (ctS c k)) (fun i _ => c.steps.length - (intOf i).toNat)
      case atStart => exact ⟨0, Nat.zero_le _, rfl, m3, bd3⟩
      case round =>
        clear hN cN fN m3 c3 f3 bd3 be3
        obtain ⟨j, hjk, rfl, hN, hbd⟩ := hrel
        by_cases hlt : j < c.steps.length
        · have hNz := hN.size
          rw [World.size_alloc] at hNz
          have hNw : New w wr := ((New.refl w).alloc _).trans hN
          obtain ⟨b, off, rfl, hbl, hx⟩ := HS.out j hlt
          have hbr : b < wr.heap.size := by omega
          have x0 : wr.cell? ⟨b, off + j * 2, none⟩ = some (.int .i64 c.steps[j].op) := (hNw.cell hbl).trans (hx 0 _ (by omega) rfl)
          have x1 : wr.cell? ⟨b, off + j * 2 + 1, none⟩ = some (.int .i64 c.steps[j].arg) := (hNw.cell hbl).trans (hx 1 _ (by omega) rfl)
          clear hx
          obtain ⟨e1, e2⟩ := HST.out c.steps[j] (List.getElem_mem hlt)
          have HX := Lib.hid (ctS_next hlt)
          have hlen := HLS.out j hjk
          rw [sline] at HX
          generalize c.steps[j].op = op at x0 e1 HX
          generalize c.steps[j].arg = q at x1 e2 HX
          have HD1 := Lib.hid (fun (w0 : World) (hw : New w w0) => HD.out op e1 w0 hw)
          have HD2 := Lib.hid (fun (w0 : World) (hw : New w w0) => HD.out q e2 w0 hw)
          unfold NumOk at e1 e2
          have hz1 := dec_len 6 op.toNat (by omega)
          have hz2 := dec_len 6 q.toNat (by omega)
          rw [← strL_size] at hz1 hz2
          have HL1 := Lib.hid (strL_list (Lib.decDigits op.toNat))
          have HL2 := Lib.hid (strL_list (Lib.decDigits q.toNat))
          generalize strL (Lib.decDigits op.toNat) = D1 at hz1 HD1 HL1
          generalize strL (Lib.decDigits q.toNat) = D2 at hz2 HD2 HL2
          rw [← HL1.out, ← HL2.out] at HX
          have hsz : (((D1 ++ ⟨#[32]⟩) ++ D2) ++ ⟨#[10]⟩ : ByteArray).size = D1.size + 1 + D2.size + 1 := by
            have h9 : (⟨#[10]⟩ : ByteArray).size = 1 := rfl
            have h8 : (⟨#[32]⟩ : ByteArray).size = 1 := rfl
            rw [ByteArray.size_append, ByteArray.size_append, ByteArray.size_append, h9, h8]
          have hq : ctS c j ++ (((D1 ++ ⟨#[32]⟩) ++ D2) ++ ⟨#[10]⟩ : ByteArray).data.toList = ctS c (j + 1) := by
            rw [HX.out, ByteArray.data_append, ByteArray.data_append, ByteArray.data_append]; simp
          have HW := Lib.hid (fun (w0 : World) (h : Bld (w.heap.size + 1) w0 (ctS c j)) => bWriteString (w.heap.size + 1) (ctS c j) (((D1 ++ ⟨#[32]⟩) ++ D2) ++ ⟨#[10]⟩) w0 h (by rw [hsz]; omega))
          rw [hq] at HW
          clear hq hsz HX
          have g1 : ¬ (9223372036854775807 < D1.size + 1) := by omega
          have g2 : ¬ (9223372036854775807 < D1.size + 1 + D2.size) := by omega
          have g3 : ¬ (9223372036854775807 < D1.size + 1 + D2.size + 1) := by omega
          have hBl := hbd.lt
          go_wp2_with fail
          have S0 : (wr.alloc (.cells #[.int .i64 op, .int .i64 q] 70)).cell? ⟨wr.heap.size, 0, none⟩ = some (.int .i64 op) ∧ (wr.alloc (.cells #[.int .i64 op, .int .i64 q] 70)).cell? ⟨wr.heap.size, 1, none⟩ = some (.int .i64 q) := ⟨by rw [cell_alloc_new _ _ _ _ _ rfl]; rfl, by rw [cell_alloc_new _ _ _ _ _ rfl]; rfl⟩
          have bdA := hbd.new ((New.refl wr).alloc (.cells #[.int .i64 op, .int .i64 q] 70))
          have zA : wr.heap.size < (wr.alloc (.cells #[.int .i64 op, .int .i64 q] 70)).heap.size := by rw [World.size_alloc]; omega
          have nA : New w (wr.alloc (.cells #[.int .i64 op, .int .i64 q] 70)) := hNw.alloc _
          have nb : wr.heap.size ≠ w.heap.size + 1 := by omega
          have nT : (70 : TypeId) ≠ 5 := by decide
          have nB := hN.alloc (.cells #[.int .i64 op, .int .i64 q] 70)
          go_region_held3 (fun w' => w'.cell? ⟨wr.heap.size, 0, none⟩ = some (.int .i64 op) ∧ w'.cell? ⟨wr.heap.size, 1, none⟩ = some (.int .i64 q)) (first | go_keep | exact S0 | exact S1 | exact S2 | exact S3) ((first | (go_at_call 68; refine (HD1.out _ (by repeat (first | with_reducible exact New.refl _ | with_reducible assumption | with_reducible refine New.drew ?_ | with_reducible refine New.drewN ?_ _ | with_reducible refine New.alloc ?_ _ | with_reducible refine New.setCell ?_ (by first | (simp; done) | (simp; omega) | omega) _ | with_reducible refine New.trans ?_ (by with_reducible assumption)))).mono ?_; rintro e w3 ⟨rfl, n3⟩; (first | replace n3 := New.undraw n3 | skip); have S1 := keep2 n3 zA S0; have z3 := Nat.lt_of_lt_of_le zA n3.size) | (go_at_call 68; refine (HD2.out _ (by repeat (first | with_reducible exact New.refl _ | with_reducible assumption | with_reducible refine New.drew ?_ | with_reducible refine New.drewN ?_ _ | with_reducible refine New.alloc ?_ _ | with_reducible refine New.setCell ?_ (by first | (simp; done) | (simp; omega) | omega) _ | with_reducible refine New.trans ?_ (by with_reducible assumption)))).mono ?_; rintro e w4 ⟨rfl, n4⟩; (first | replace n4 := New.undraw n4 | skip); have S2 := keep2 n4 z3 S1; have z4 := Nat.lt_of_lt_of_le z3 n4.size) | (go_at_call 65; refine (HW.out _ ((bdA.new n3).new n4)).mono ?_; rintro e w5 ⟨rfl, bd5, be5, kp5⟩; have hb5 := kp5 _ _ _ _ nb nT ((Below.block (n3.trans n4) wr.heap.size zA).trans (heap_alloc_new wr _)); have S3 : w5.cell? ⟨wr.heap.size, 0, none⟩ = some (.int .i64 op) ∧ w5.cell? ⟨wr.heap.size, 1, none⟩ = some (.int .i64 q) := ⟨cell_heap hb5 (j := 0) rfl, cell_heap hb5 (j := 1) rfl⟩)))
          have m5 : New (w.alloc (.cells #[.int .i64 c.ins, .int .i64 c.vars, .int .i64 c.outs, .slice ba c.blocks.length bcap, .slice (some ⟨b, off, none⟩) c.steps.length scap] 27)) w5 := by
            refine Below.trans ((nB.trans n3).trans n4) ?_
            rw [World.size_alloc]
            exact be5
          clear S0 S1 S2 S3
          go_wp2_with fail
          go_roundw
          case rel => exact ⟨j + 1, by omega, by go_num, m5, bd5⟩
          case measure => simp [intOf]; omega
        · obtain rfl : j = c.steps.length := by omega
          have HW := Lib.hid (bString (w.heap.size + 1) _ _ hbd)
          go_wp2_with fail
          refine HW.out.mono ?_; rintro e w4 ⟨rfl, be4⟩
          have m4 : New w w4 := by
            have h := Below.trans hN (show Below (w.alloc (.cells #[.int .i64 c.ins, .int .i64 c.vars, .int .i64 c.outs, .slice ba c.blocks.length bcap, .slice sa c.steps.length scap] 27)).heap.size _ w4 by rw [World.size_alloc]; exact be4)
            exact ((New.refl w).alloc _).trans h
          go_wp2_with fail
          go_ret
          exact ⟨rfl, m4⟩
end Go.Proofs.YteielmihlfakgaaGreatDoor
