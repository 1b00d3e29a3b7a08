/- What the row's list of variables gives: the library's tables and errors. -/
import Derived.Lib.LaidTab
import Derived.Deep.DeepHandedRow
import Derived.Stop.LaidErr
import Derived.Test.YteielmihlfakgaaDoorProg
import Derived.Test.YteielmihlfakgaaDoorRows
import Derived.Test.YteielmihlfakgaaDoorLibW
namespace Go.Proofs.YteielmihlfakgaaDoor
open Go Go.Proofs Go.RowKit Go.ChangeShapes
set_option linter.unusedVariables false
set_option linter.unusedSimpArgs false
set_option maxRecDepth 100000
theorem pw_of_laid {r : List (String × DataW Unit)} {W : World} (h : laidMet Tryd.prog (("internal/strconv.uint64pow10", Rows.laid_internal_strconv_uint64pow10) :: r) W) : PW W :=
  Lib.tabIs_of_head (zs := Lib.pow10Tab) (g := 2) (by kernel_rfl) (by kernel_rfl) Tryd.underlying193 Tryd.underlying186 (by kernel_rfl) (by kernel_rfl) h
end Go.Proofs.YteielmihlfakgaaDoor
