/- A law's code, opened; 'big'. -/
import Derived.Test.YtommolbkcjpjhaaDoorShape
import Derived.Test.YtommolbkcjpjhaaDoorFacts
namespace Go.Proofs.YtommolbkcjpjhaaDoor
open Go Go.Proofs Go.RowKit Go.ChangeShapes Go.WideShapes Go.ChangeAt
set_option linter.unusedVariables false
set_option linter.unusedSimpArgs false
set_option maxRecDepth 100000
theorem sh_code : Sh.of Tryd.prog 5 22 = some (.slice .byte) := by kernel_rfl
theorem openCode {H : Type} {enc : TypeId × Value → H} {W : World} {r : Reach} {base : Nat} {v : Value} {d : DataW H} {p : List MemPlace} (h : DataW.Trod enc Tryd.prog W 0 (fun _ => true) true 22 v d p) (o : Value.okWide Tryd.prog W r base 22 v) :
    ∃ bs : List Int, Rd W v bs.length (bs.map (Value.int .u8)) ∧ ∀ c ∈ bs, 0 ≤ c ∧ c ≤ 255 := by
  obtain ⟨a, n, cap, rfl⟩ := okWide_slice Tryd.underlying22 o
  exact rdBytes_of_sh (Sh.is_of_trod sh_code h)
theorem big_any (v : Value) (n : Nat) (cs : List Value) (w : World) (hv : Rd w v n cs) : Calls Tryd.prog 5 #[v] w fun e w' => e = .returned (.bool (decide (4096 < (n : Int)))) ∧ w = w' := by
  obtain ⟨a, cap, rfl, hn, h0, hc⟩ := hv
  clear hc
  go_enter Tryd.func5, Tryd.ntmps5
  go_wp2_with fail
  go_ret
  exact ⟨ret_bool (by simp), rfl⟩
end Go.Proofs.YtommolbkcjpjhaaDoor
