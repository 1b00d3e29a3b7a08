/- The laws' arguments: programs, opened. -/
import Derived.Test.YteielmihlfakgaaGreatDoorProg
import Derived.Test.YteielmihlfakgaaGreatDoorVA
import Derived.Test.YteielmihlfakgaaGreatDoorOpenTermS
import Derived.Test.YteielmihlfakgaaGreatDoorVC
import Derived.Test.YteielmihlfakgaaGreatDoorOpenStr
namespace Go.Proofs.YteielmihlfakgaaGreatDoor
open Go Go.Proofs Go.RowKit Go.ChangeShapes Go.WideShapes Go.ChangeAt
set_option linter.unusedVariables false
set_option linter.unusedSimpArgs false
set_option maxRecDepth 100000
theorem rdS_of_sh {w : World} {v : Value} (h : (Sh.slice .str).Is w [v]) : ∃ xs : List ByteArray, RdS w v xs ∧ ∀ x ∈ xs, okS x := by
  obtain ⟨xs, hx⟩ := rd_of_slice (w := w) (e := .str) (v := v) (fun x : {x : ByteArray // okS x} => [.string x.val]) (fun cs hh => by obtain ⟨n, hn, ho⟩ := hh; exact ⟨⟨n, ho⟩, hn⟩) (fun _ => rfl) h
  refine ⟨xs.map Subtype.val, ?_, ?_⟩
  · rw [RdS, List.length_map]
    have e : (xs.flatMap fun x => [Value.string x.val]) = (xs.map Subtype.val).map Value.string := by rw [flat_one, List.map_map]; rfl
    rw [e] at hx; exact hx
  · intro x hx
    obtain ⟨y, _, rfl⟩ := List.mem_map.1 hx
    exact y.property
theorem rdLn_of_sh {w : World} {v : Value} (h : (Sh.slice (.pair .str (.pair (.slice (.pair .int (.pair .str (.pair .int .nil)))) .nil))).Is w [v]) : ∃ ls : List LineD, RdLn w v ls ∧ ∀ l ∈ ls, okLn l := by
  obtain ⟨xs, hx⟩ := rd_of_slice (w := w) (v := v) (fun x : {x : LV // (Rd w x.2 x.1.terms.length (x.1.terms.flatMap encTerm)) ∧ okLn x.1} => encLV x.val) (fun cs hh => by
    obtain ⟨_, _, rfl, ⟨s, rfl, hs⟩, _, _, rfl, ht, rfl⟩ := hh
    obtain ⟨tv, rfl⟩ := one_of_slice ht
    obtain ⟨ts, h1, h2⟩ := rdTerm_of_sh ht
    exact ⟨⟨(⟨s, ts⟩, tv), h1, hs, h2⟩, rfl⟩) (fun _ => rfl) h
  refine ⟨(xs.map Subtype.val).map Prod.fst, ⟨xs.map Subtype.val, rfl, ?_, ?_⟩, ?_⟩
  · rw [List.length_map, List.flatMap_map]; exact hx
  · intro p hp
    obtain ⟨y, _, rfl⟩ := List.mem_map.1 hp
    exact y.property.1
  · intro l hl
    obtain ⟨p, hp, rfl⟩ := List.mem_map.1 hl
    obtain ⟨y, _, rfl⟩ := List.mem_map.1 hp
    exact y.property.2
theorem sh_Program : Sh.of Tryz.prog 7 42 = some (.pair .str (.pair (.slice .str) (.pair (.slice .str) (.pair (.slice .str) (.pair .str (.pair (.slice (.pair .str (.pair (.slice (.pair .int (.pair .str (.pair .int .nil)))) .nil))) .nil)))))) := by kernel_rfl
theorem openProgram {H : Type} {enc : TypeId × Value → H} {W : World} {r : Reach} {base : Nat} {v : Value} {d : DataW H} {p : List MemPlace} (h : DataW.Trod enc Tryz.prog W 0 (fun _ => true) true 42 v d p) (o : Value.okWide Tryz.prog W r base 42 v) :
    ∃ (p : ProgD) (iv vv ov lv : Value), v = valP p iv vv ov lv ∧ RdP W p iv vv ov lv ∧ OkP p := by
  have hv := agg_of_okWide Tryz.underlying42 o
  obtain ⟨_, _, e, ⟨nm, rfl, o1⟩, _, _, rfl, h2, _, _, rfl, h3, _, _, rfl, h4, _, _, rfl, ⟨gd, rfl, o5⟩, _, _, rfl, h6, rfl⟩ := Sh.is_of_trod sh_Program h
  obtain ⟨iv, rfl⟩ := one_of_slice h2
  obtain ⟨vv, rfl⟩ := one_of_slice h3
  obtain ⟨ov, rfl⟩ := one_of_slice h4
  obtain ⟨lv, rfl⟩ := one_of_slice h6
  obtain ⟨x2, r2, o2⟩ := rdS_of_sh h2
  obtain ⟨x3, r3, o3⟩ := rdS_of_sh h3
  obtain ⟨x4, r4, o4⟩ := rdS_of_sh h4
  obtain ⟨x6, r6, o6⟩ := rdLn_of_sh h6
  refine ⟨⟨nm, x2, x3, x4, gd, x6⟩, iv, vv, ov, lv, ?_, ⟨r2, r3, r4, r6⟩, ⟨o1, o2, o3, o4, o5, o6⟩⟩
  rw [hv, ← Array.toArray_toList (xs := v.cells), e]
  rfl
end Go.Proofs.YteielmihlfakgaaGreatDoor
