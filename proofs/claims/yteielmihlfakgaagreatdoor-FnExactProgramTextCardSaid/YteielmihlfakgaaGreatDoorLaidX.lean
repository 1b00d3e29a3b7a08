/- What the row's list of variables gives: the library's tables and errors. -/
import Derived.Lib.LaidTab
import Derived.Deep.DeepHandedRow
import Derived.Stop.LaidErr
import Derived.Test.YteielmihlfakgaaGreatDoorProg
import Derived.Test.YteielmihlfakgaaGreatDoorRows
import Derived.Test.YteielmihlfakgaaGreatDoorLibW
namespace Go.Proofs.YteielmihlfakgaaGreatDoor
open Go Go.Proofs Go.RowKit Go.ChangeShapes
set_option linter.unusedVariables false
set_option linter.unusedSimpArgs false
set_option maxRecDepth 100000
theorem pw_of_laid {r : List (String × DataW Unit)} {W : World} (h : laidMet Tryz.prog (("internal/strconv.uint64pow10", Rows.laid_internal_strconv_uint64pow10) :: r) W) : PW W :=
  Lib.tabIs_of_head (zs := Lib.pow10Tab) (g := 4) (by kernel_rfl) (by kernel_rfl) Tryz.underlying215 Tryz.underlying184 (by kernel_rfl) (by kernel_rfl) h
theorem er_of_laid {r r' : List (String × DataW Unit)} {W : World} (h1 : laidMet Tryz.prog (("strconv.ErrRange", Rows.laid_strconv_ErrRange) :: r) W) (h2 : laidMet Tryz.prog (("strconv.ErrSyntax", Rows.laid_strconv_ErrSyntax) :: r') W) : ER W := by
  have hrow : ∀ u, Tryz.prog.typeName? 3 u = some "*errors.errorString" → u = 226 := by
    intro u h
    have star : "*" ++ "errors.errorString" = "*errors.errorString" := by decide
    exact typeName_ptr_named (nm := "errors.errorString") (by rw [star]; kernel_rfl) (by kernel_rfl) (by decide) u (by rw [star]; exact h)
  obtain ⟨a, s, e1, _⟩ := laid_sentinel (g := 3) h1 (by kernel_rfl) (by kernel_rfl) Tryz.underlying108 hrow Tryz.underlying226 Tryz.underlying228 (by kernel_rfl) (by kernel_rfl) Tryz.underlying9 (by kernel_rfl) (by kernel_rfl)
  obtain ⟨b, t, e2, _⟩ := laid_sentinel (g := 2) h2 (by kernel_rfl) (by kernel_rfl) Tryz.underlying108 hrow Tryz.underlying226 Tryz.underlying228 (by kernel_rfl) (by kernel_rfl) Tryz.underlying9 (by kernel_rfl) (by kernel_rfl)
  exact ⟨⟨_, _, e2⟩, ⟨_, _, e1⟩⟩
theorem ml_shaped (w : World) (h : w.ShapedOpen Tryz.prog) : ML w := Go.Proofs.cell_of_shapedOpen_int (zero := #[.int .i64 0]) (t := 3) h (of_decide_eq_true (by kernel_rfl)) (by kernel_rfl) rfl (by kernel_rfl) (by kernel_rfl) Tryz.underlying3
end Go.Proofs.YteielmihlfakgaaGreatDoor
