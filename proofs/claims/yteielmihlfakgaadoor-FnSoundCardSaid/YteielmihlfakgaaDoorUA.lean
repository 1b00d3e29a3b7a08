/- What every law's row shares: the arguments and the listed variables read behind the call as before. -/
import Derived.ProofKit
import Derived.OpenShut
import Derived.WalkSmall
import Derived.Test.YteielmihlfakgaaDoorBase
import Derived.Test.YteielmihlfakgaaDoorProg
import Derived.Test.YteielmihlfakgaaDoorShape
namespace Go.Proofs.YteielmihlfakgaaDoor
open Go Go.RowKit Go.ChangeShapes Go.WideShapes Go.ChangeAt Go.WideElems
set_option linter.unusedVariables false
set_option linter.unusedSimpArgs false

theorem trodAll_new {H : Type} {enc : TypeId × Value → H} {P : Program} (hl : laidOutB P = true) {W W' : World} (hb : New W W') :
    ∀ (ts : List TypeId) (vs : List Value) (ds : List (DataW H)) (ps : List MemPlace), (∀ t ∈ ts, P.readableRec t = true ∧ t < P.types.size) →
      DataW.TrodAll enc P W 0 (fun _ => true) true ts vs ds ps → (∀ x ∈ ps, x.block < W.heap.size) → DataW.TrodAll enc P W' 0 (fun b => decide (b < W.heap.size)) true ts vs ds ps
  | [], [], [], _, _, h, _ => h
  | t :: ts, v :: vs, d :: ds, ps, hr, h, hlt => by
    obtain ⟨p, q, h1, h2, rfl⟩ := h
    obtain ⟨r1, r2⟩ := hr t (by simp)
    exact ⟨p, q, Below.trod hl r1 r2 h1 hb (fun x hx => hlt x (by simp [hx])), trodAll_new hl hb ts vs ds q (fun t ht => hr t (by simp [ht])) h2 (fun x hx => hlt x (by simp [hx])), rfl⟩
  | [], _ :: _, _, _, _, h, _ => by simp [DataW.TrodAll] at h
  | [], [], _ :: _, _, _, h, _ => by simp [DataW.TrodAll] at h
  | _ :: _, [], _, _, _, h, _ => by simp [DataW.TrodAll] at h
  | _ :: _, _ :: _, [], _, _, h, _ => by simp [DataW.TrodAll] at h

theorem trodVars_new {H : Type} {enc : TypeId × Value → H} {P : Program} (hl : laidOutB P = true) {W W' : World} (hb : New W W') :
    ∀ (ns : List String) (ds : List (DataW H)) (ps : List MemPlace), (∀ n ∈ ns, ∀ g t, P.globalNamed n = some g → (P.globals[g]?).map (·.type) = some t → P.readableRec t = true ∧ t < P.types.size) →
      DataW.TrodVars enc P W (fun _ => true) ns ds ps → (∀ x ∈ ps, x.block < W.heap.size) → DataW.TrodVars enc P W' (fun b => decide (b < W.heap.size)) ns ds ps
  | [], [], _, _, h, _ => h
  | n :: ns, d :: ds, ps, hr, h, hlt => by
    obtain ⟨g, t, cs, fuel, p, q, hg, ht, hv, hd, hrest, rfl⟩ := h
    obtain ⟨r1, r2⟩ := hr n (by simp) g t hg ht
    have hg1 : g < W.heap.size := by
      unfold World.var? at hv
      simp only [hg, Option.bind_some] at hv
      rcases Nat.lt_or_ge g W.heap.size with h | h
      · exact h
      · rw [Array.getElem?_eq_none h] at hv; cases hv
    refine ⟨g, t, cs, fuel, p, q, hg, ht, var?_below hb hg hg1 hv, ?_, trodVars_new hl hb ns ds q (fun n hn => hr n (by simp [hn])) hrest (fun x hx => hlt x (by simp [hx])), rfl⟩
    exact DataW.trod_stays (kids_book hl r1) (book_sized r1) (fun h => by cases h) ⟨r2, book_self t⟩ hd (fun x hx => Below.same hb (hlt x (by simp [hx]))) (fun x hx => by simpa using hlt x (by simp [hx]))
  | [], _ :: _, _, _, h, _ => by simp [DataW.TrodVars] at h
  | _ :: _, [], _, _, h, _ => by simp [DataW.TrodVars] at h

/-- A LAW's POST: it returned true, and what was there when it began has not turned. -/
theorem law_post {H : Type} {enc : TypeId × Value → H} {P : Program} {f : Func} {s : ChangeSpec} {W W' : World} {args : Array Value} {ds gs : List (DataW H)} {before : List MemPlace} {tb : TypeId}
    (hl : laidOutB P = true) (hr : ∀ t ∈ f.params.toList, P.readableRec t = true ∧ t < P.types.size)
    (hv : ∀ n ∈ s.vars, ∀ g t, P.globalNamed n = some g → (P.globals[g]?).map (·.type) = some t → P.readableRec t = true ∧ t < P.types.size)
    (hrt : f.resultTypes = #[tb]) (htb : P.underlying tb = some .bool)
    (hW : DataW.Whole enc P f.params.toList s.vars false W args.toList ds gs before)
    (hs : s.fn H (ds ++ gs) = { results := [.lit (.bool true)], args := ds, vars := gs }) (hb : New W W') :
    s.post enc P f false true false false W args (.bool true) W' := by
  have hlt : ∀ x ∈ before, x.block < W.heap.size := fun x hx => hW.lt x hx
  have hW' := hW
  obtain ⟨p, q, hA, hV, rfl, hfz, hnd⟩ := hW
  refine ⟨ds, gs, p ++ q, [], p, q, hW', ?_, ?_, ?_, Below.frame hb _, fun h => by cases h⟩
  · rw [hs, hrt]
    exact trodAll_mk1 (shut_bool htb true)
  · rw [hs]
    exact trodAll_new hl hb _ _ _ _ hr hA (fun x hx => hlt x (by simp [hx]))
  · rw [hs]
    exact trodVars_new hl hb _ _ _ hv hV (fun x hx => hlt x (by simp [hx]))
end Go.Proofs.YteielmihlfakgaaDoor
/- Closed facts of this seat's program. -/
namespace Go.Proofs.YteielmihlfakgaaDoor
open Go Go.Proofs
theorem laidOut : laidOutB Tryd.prog = true := by kernel_rfl
theorem reads_of {l : List TypeId} (h : (l.all fun t => Tryd.prog.readableRec t && decide (t < Tryd.prog.types.size)) = true) : ∀ t ∈ l, Tryd.prog.readableRec t = true ∧ t < Tryd.prog.types.size := fun t ht => by
  have := List.all_eq_true.1 h t ht
  rw [Bool.and_eq_true, decide_eq_true_eq] at this
  exact this
end Go.Proofs.YteielmihlfakgaaDoor
/- A law's code, opened; 'big'. -/
namespace Go.Proofs.YteielmihlfakgaaDoor
open Go Go.Proofs Go.RowKit Go.ChangeShapes Go.WideShapes Go.ChangeAt
set_option linter.unusedVariables false
set_option linter.unusedSimpArgs false
set_option maxRecDepth 100000
theorem sh_code : Sh.of Tryd.prog 5 22 = some (.slice .byte) := by kernel_rfl
theorem openCode {H : Type} {enc : TypeId × Value → H} {W : World} {r : Reach} {base : Nat} {v : Value} {d : DataW H} {p : List MemPlace} (h : DataW.Trod enc Tryd.prog W 0 (fun _ => true) true 22 v d p) (o : Value.okWide Tryd.prog W r base 22 v) :
    ∃ bs : List Int, Rd W v bs.length (bs.map (Value.int .u8)) ∧ ∀ c ∈ bs, 0 ≤ c ∧ c ≤ 255 := by
  obtain ⟨a, n, cap, rfl⟩ := okWide_slice Tryd.underlying22 o
  exact rdBytes_of_sh (Sh.is_of_trod sh_code h)
theorem big_any (v : Value) (n : Nat) (cs : List Value) (w : World) (hv : Rd w v n cs) : Calls Tryd.prog 7 #[v] w fun e w' => e = .returned (.bool (decide (4096 < (n : Int)))) ∧ w = w' := by
  obtain ⟨a, cap, rfl, hn, h0, hc⟩ := hv
  clear hc
  go_enter Tryd.func7, Tryd.ntmps7
  go_wp2_with fail
  go_ret
  exact ⟨ret_bool (by simp), rfl⟩
end Go.Proofs.YteielmihlfakgaaDoor
