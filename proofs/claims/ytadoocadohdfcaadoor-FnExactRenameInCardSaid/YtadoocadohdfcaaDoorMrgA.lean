/- LawBase, Facts, OpenTermS, OpenStr, OpenProgram: several texts in one. -/
import Derived.ProofKit
import Derived.OpenShut
import Derived.WalkSmall
import Derived.Test.YtadoocadohdfcaaDoorBase
import Derived.Test.YtadoocadohdfcaaDoorProg
import Derived.Test.YtadoocadohdfcaaDoorShape
import Derived.Test.YtadoocadohdfcaaDoorTermS
import Derived.Test.YtadoocadohdfcaaDoorStrSl
import Derived.Test.YtadoocadohdfcaaDoorLangS
namespace Go.Proofs.YtadoocadohdfcaaDoor
open Go Go.RowKit Go.ChangeShapes Go.WideShapes Go.ChangeAt Go.WideElems
set_option linter.unusedVariables false
set_option linter.unusedSimpArgs false

theorem trodAll_new {H : Type} {enc : TypeId × Value → H} {P : Program} (hl : laidOutB P = true) {W W' : World} (hb : New W W') :
    ∀ (ts : List TypeId) (vs : List Value) (ds : List (DataW H)) (ps : List MemPlace), (∀ t ∈ ts, P.readableRec t = true ∧ t < P.types.size) →
      DataW.TrodAll enc P W 0 (fun _ => true) true ts vs ds ps → (∀ x ∈ ps, x.block < W.heap.size) → DataW.TrodAll enc P W' 0 (fun b => decide (b < W.heap.size)) true ts vs ds ps
  | [], [], [], _, _, h, _ => h
  | t :: ts, v :: vs, d :: ds, ps, hr, h, hlt => by
    obtain ⟨p, q, h1, h2, rfl⟩ := h
    obtain ⟨r1, r2⟩ := hr t (by simp)
    exact ⟨p, q, Below.trod hl r1 r2 h1 hb (fun x hx => hlt x (by simp [hx])), trodAll_new hl hb ts vs ds q (fun t ht => hr t (by simp [ht])) h2 (fun x hx => hlt x (by simp [hx])), rfl⟩
  | [], _ :: _, _, _, _, h, _ => by simp [DataW.TrodAll] at h
  | [], [], _ :: _, _, _, h, _ => by simp [DataW.TrodAll] at h
  | _ :: _, [], _, _, _, h, _ => by simp [DataW.TrodAll] at h
  | _ :: _, _ :: _, [], _, _, h, _ => by simp [DataW.TrodAll] at h

theorem trodVars_new {H : Type} {enc : TypeId × Value → H} {P : Program} (hl : laidOutB P = true) {W W' : World} (hb : New W W') :
    ∀ (ns : List String) (ds : List (DataW H)) (ps : List MemPlace), (∀ n ∈ ns, ∀ g t, P.globalNamed n = some g → (P.globals[g]?).map (·.type) = some t → P.readableRec t = true ∧ t < P.types.size) →
      DataW.TrodVars enc P W (fun _ => true) ns ds ps → (∀ x ∈ ps, x.block < W.heap.size) → DataW.TrodVars enc P W' (fun b => decide (b < W.heap.size)) ns ds ps
  | [], [], _, _, h, _ => h
  | n :: ns, d :: ds, ps, hr, h, hlt => by
    obtain ⟨g, t, cs, fuel, p, q, hg, ht, hv, hd, hrest, rfl⟩ := h
    obtain ⟨r1, r2⟩ := hr n (by simp) g t hg ht
    have hg1 : g < W.heap.size := by
      unfold World.var? at hv
      simp only [hg, Option.bind_some] at hv
      rcases Nat.lt_or_ge g W.heap.size with h | h
      · exact h
      · rw [Array.getElem?_eq_none h] at hv; cases hv
    refine ⟨g, t, cs, fuel, p, q, hg, ht, var?_below hb hg hg1 hv, ?_, trodVars_new hl hb ns ds q (fun n hn => hr n (by simp [hn])) hrest (fun x hx => hlt x (by simp [hx])), rfl⟩
    exact DataW.trod_stays (kids_book hl r1) (book_sized r1) (fun h => by cases h) ⟨r2, book_self t⟩ hd (fun x hx => Below.same hb (hlt x (by simp [hx]))) (fun x hx => by simpa using hlt x (by simp [hx]))
  | [], _ :: _, _, _, h, _ => by simp [DataW.TrodVars] at h
  | _ :: _, [], _, _, h, _ => by simp [DataW.TrodVars] at h

/-- A LAW's POST: it returned true, and what was there when it began has not turned. -/
theorem law_post {H : Type} {enc : TypeId × Value → H} {P : Program} {f : Func} {s : ChangeSpec} {W W' : World} {args : Array Value} {ds gs : List (DataW H)} {before : List MemPlace} {tb : TypeId}
    (hl : laidOutB P = true) (hr : ∀ t ∈ f.params.toList, P.readableRec t = true ∧ t < P.types.size)
    (hv : ∀ n ∈ s.vars, ∀ g t, P.globalNamed n = some g → (P.globals[g]?).map (·.type) = some t → P.readableRec t = true ∧ t < P.types.size)
    (hrt : f.resultTypes = #[tb]) (htb : P.underlying tb = some .bool)
    (hW : DataW.Whole enc P f.params.toList s.vars false W args.toList ds gs before)
    (hs : s.fn H (ds ++ gs) = { results := [.lit (.bool true)], args := ds, vars := gs }) (hb : New W W') :
    s.post enc P f false true false false W args (.bool true) W' := by
  have hlt : ∀ x ∈ before, x.block < W.heap.size := fun x hx => hW.lt x hx
  have hW' := hW
  obtain ⟨p, q, hA, hV, rfl, hfz, hnd⟩ := hW
  refine ⟨ds, gs, p ++ q, [], p, q, hW', ?_, ?_, ?_, Below.frame hb _, fun h => by cases h⟩
  · rw [hs, hrt]
    exact trodAll_mk1 (shut_bool htb true)
  · rw [hs]
    exact trodAll_new hl hb _ _ _ _ hr hA (fun x hx => hlt x (by simp [hx]))
  · rw [hs]
    exact trodVars_new hl hb _ _ _ hv hV (fun x hx => hlt x (by simp [hx]))
end Go.Proofs.YtadoocadohdfcaaDoor

namespace Go.Proofs.YtadoocadohdfcaaDoor
open Go Go.Proofs
theorem laidOut : laidOutB Tryd.prog = true := by kernel_rfl
theorem reads_of {l : List TypeId} (h : (l.all fun t => Tryd.prog.readableRec t && decide (t < Tryd.prog.types.size)) = true) : ∀ t ∈ l, Tryd.prog.readableRec t = true ∧ t < Tryd.prog.types.size := fun t ht => by
  have := List.all_eq_true.1 h t ht
  rw [Bool.and_eq_true, decide_eq_true_eq] at this
  exact this
end Go.Proofs.YtadoocadohdfcaaDoor

namespace Go.Proofs.YtadoocadohdfcaaDoor
open Go Go.Proofs Go.RowKit Go.ChangeShapes Go.WideShapes Go.ChangeAt
set_option linter.unusedVariables false
set_option linter.unusedSimpArgs false
set_option maxRecDepth 100000
theorem sh_TermS : Sh.of Tryd.prog 5 88 = some (.slice (.pair .int (.pair .str (.pair .int .nil)))) := by kernel_rfl
theorem dec_Term {w : World} (cs : List Value) (h : Sh.Is w (.pair .int (.pair .str (.pair .int .nil))) cs) : ∃ x : {x : ETerm // okTerm x}, cs = encTerm x.val := by
  obtain ⟨_, _, rfl, ⟨kind, rfl, _⟩, ⟨_, _, rfl, ⟨name, rfl, oname⟩, ⟨_, _, rfl, ⟨num, rfl, _⟩, rfl⟩⟩⟩ := h
  exact ⟨⟨⟨kind, name, num⟩, by first | exact ⟨oname⟩ | (simp only [okTerm]; assumption)⟩, rfl⟩
theorem rdTerm_of_sh {w : World} {v : Value} (h : (Sh.slice (.pair .int (.pair .str (.pair .int .nil)))).Is w [v]) : ∃ xs : List ETerm, Rd w v xs.length (xs.flatMap encTerm) ∧ ∀ x ∈ xs, okTerm x := by
  obtain ⟨xs, hx⟩ := rd_of_slice (w := w) (fun x : {x : ETerm // okTerm x} => encTerm x.val) dec_Term (fun x => encTerm_len x.val) h
  refine ⟨xs.map Subtype.val, ?_, ?_⟩
  · rw [List.length_map, List.flatMap_map]; exact hx
  · intro x hx
    obtain ⟨y, _, rfl⟩ := List.mem_map.1 hx
    exact y.property
theorem openTermS {H : Type} {enc : TypeId × Value → H} {W : World} {r : Reach} {base : Nat} {v : Value} {d : DataW H} {p : List MemPlace} (h : DataW.Trod enc Tryd.prog W 0 (fun _ => true) true 88 v d p) (o : Value.okWide Tryd.prog W r base 88 v) :
    ∃ xs : List ETerm, Rd W v xs.length (xs.flatMap encTerm) ∧ ∀ x ∈ xs, okTerm x := by
  obtain ⟨a, n, cap, rfl⟩ := okWide_slice Tryd.underlying88 o
  exact rdTerm_of_sh (Sh.is_of_trod sh_TermS h)
end Go.Proofs.YtadoocadohdfcaaDoor

namespace Go.Proofs.YtadoocadohdfcaaDoor
open Go Go.Proofs Go.RowKit Go.ChangeShapes Go.WideShapes Go.ChangeAt
set_option linter.unusedVariables false
set_option linter.unusedSimpArgs false
set_option maxRecDepth 100000
theorem sh_Str : Sh.of Tryd.prog 2 9 = some .str := by kernel_rfl
theorem openStr {H : Type} {enc : TypeId × Value → H} {W : World} {r : Reach} {base : Nat} {v : Value} {d : DataW H} {p : List MemPlace} (h : DataW.Trod enc Tryd.prog W 0 (fun _ => true) true 9 v d p) (o : Value.okWide Tryd.prog W r base 9 v) : ∃ s : ByteArray, v = .string s ∧ s.size ≤ 9223372036854775807 := by
  obtain ⟨s, rfl⟩ := okWide_string Tryd.underlying9 o
  obtain ⟨s', e, hs⟩ := Sh.is_of_trod sh_Str h
  have : s = s' := by have := congrArg (fun l => l.head?) e; simpa [Value.cells] using this
  subst this
  exact ⟨s, rfl, hs⟩
end Go.Proofs.YtadoocadohdfcaaDoor

namespace Go.Proofs.YtadoocadohdfcaaDoor
open Go Go.Proofs Go.RowKit Go.ChangeShapes Go.WideShapes Go.ChangeAt
set_option linter.unusedVariables false
set_option linter.unusedSimpArgs false
set_option maxRecDepth 100000
theorem rdS_of_sh {w : World} {v : Value} (h : (Sh.slice .str).Is w [v]) : ∃ xs : List ByteArray, RdS w v xs ∧ ∀ x ∈ xs, okS x := by
  obtain ⟨xs, hx⟩ := rd_of_slice (w := w) (e := .str) (v := v) (fun x : {x : ByteArray // okS x} => [.string x.val]) (fun cs hh => by obtain ⟨n, hn, ho⟩ := hh; exact ⟨⟨n, ho⟩, hn⟩) (fun _ => rfl) h
  refine ⟨xs.map Subtype.val, ?_, ?_⟩
  · rw [RdS, List.length_map]
    have e : (xs.flatMap fun x => [Value.string x.val]) = (xs.map Subtype.val).map Value.string := by rw [flat_one, List.map_map]; rfl
    rw [e] at hx; exact hx
  · intro x hx
    obtain ⟨y, _, rfl⟩ := List.mem_map.1 hx
    exact y.property
theorem rdLn_of_sh {w : World} {v : Value} (h : (Sh.slice (.pair .str (.pair (.slice (.pair .int (.pair .str (.pair .int .nil)))) .nil))).Is w [v]) : ∃ ls : List LineD, RdLn w v ls ∧ ∀ l ∈ ls, okLn l := by
  obtain ⟨xs, hx⟩ := rd_of_slice (w := w) (v := v) (fun x : {x : LV // (Rd w x.2 x.1.terms.length (x.1.terms.flatMap encTerm)) ∧ okLn x.1} => encLV x.val) (fun cs hh => by
    obtain ⟨_, _, rfl, ⟨s, rfl, hs⟩, _, _, rfl, ht, rfl⟩ := hh
    obtain ⟨tv, rfl⟩ := one_of_slice ht
    obtain ⟨ts, h1, h2⟩ := rdTerm_of_sh ht
    exact ⟨⟨(⟨s, ts⟩, tv), h1, hs, h2⟩, rfl⟩) (fun _ => rfl) h
  refine ⟨(xs.map Subtype.val).map Prod.fst, ⟨xs.map Subtype.val, rfl, ?_, ?_⟩, ?_⟩
  · rw [List.length_map, List.flatMap_map]; exact hx
  · intro p hp
    obtain ⟨y, _, rfl⟩ := List.mem_map.1 hp
    exact y.property.1
  · intro l hl
    obtain ⟨p, hp, rfl⟩ := List.mem_map.1 hl
    obtain ⟨y, _, rfl⟩ := List.mem_map.1 hp
    exact y.property.2
theorem sh_Program : Sh.of Tryd.prog 7 25 = some (.pair .str (.pair (.slice .str) (.pair (.slice .str) (.pair (.slice .str) (.pair .str (.pair (.slice (.pair .str (.pair (.slice (.pair .int (.pair .str (.pair .int .nil)))) .nil))) .nil)))))) := by kernel_rfl
theorem openProgram {H : Type} {enc : TypeId × Value → H} {W : World} {r : Reach} {base : Nat} {v : Value} {d : DataW H} {p : List MemPlace} (h : DataW.Trod enc Tryd.prog W 0 (fun _ => true) true 25 v d p) (o : Value.okWide Tryd.prog W r base 25 v) :
    ∃ (p : ProgD) (iv vv ov lv : Value), v = valP p iv vv ov lv ∧ RdP W p iv vv ov lv ∧ OkP p := by
  have hv := agg_of_okWide Tryd.underlying25 o
  obtain ⟨_, _, e, ⟨nm, rfl, o1⟩, _, _, rfl, h2, _, _, rfl, h3, _, _, rfl, h4, _, _, rfl, ⟨gd, rfl, o5⟩, _, _, rfl, h6, rfl⟩ := Sh.is_of_trod sh_Program h
  obtain ⟨iv, rfl⟩ := one_of_slice h2
  obtain ⟨vv, rfl⟩ := one_of_slice h3
  obtain ⟨ov, rfl⟩ := one_of_slice h4
  obtain ⟨lv, rfl⟩ := one_of_slice h6
  obtain ⟨x2, r2, o2⟩ := rdS_of_sh h2
  obtain ⟨x3, r3, o3⟩ := rdS_of_sh h3
  obtain ⟨x4, r4, o4⟩ := rdS_of_sh h4
  obtain ⟨x6, r6, o6⟩ := rdLn_of_sh h6
  refine ⟨⟨nm, x2, x3, x4, gd, x6⟩, iv, vv, ov, lv, ?_, ⟨r2, r3, r4, r6⟩, ⟨o1, o2, o3, o4, o5, o6⟩⟩
  rw [hv, ← Array.toArray_toList (xs := v.cells), e]
  rfl
end Go.Proofs.YtadoocadohdfcaaDoor
