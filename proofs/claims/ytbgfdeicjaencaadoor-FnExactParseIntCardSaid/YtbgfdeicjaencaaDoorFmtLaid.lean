/-
  From the rows' condition on the library's tables to the contracts' fact.
-/
import Derived.Test.YtbgfdeicjaencaaDoorFmt
import Derived.Test.YtbgfdeicjaencaaDoorRows
import Derived.LaidMore
import Derived.Lib.LaidTab
import Derived.Stop.LaidErr
import Derived.Stop.Joined
namespace Go.Proofs.YtbgfdeicjaencaaDoor
open Go.RowKit

theorem gPow : Tryd.prog.globalNamed "internal/strconv.uint64pow10" = some 3 := by kernel_rfl
theorem gPowType : (Tryd.prog.globals[3]?).map (·.type) = some 101 := by kernel_rfl
theorem cellsU64 : Tryd.prog.cellsOf 53 = 1 := by kernel_rfl
theorem cellsPow : Tryd.prog.cellsOf 101 = 20 := by kernel_rfl
theorem tabB_of_laid {W : World} (h : laidMetH Tryd.prog Rows.fnExactFormatIntRow.laid W) : TabB W := by
  rw [MakeChecks.laidMetH_plain _ _ _ (by kernel_rfl)] at h
  have h2 : laidMet Tryd.prog [("internal/strconv.uint64pow10", Lib.tabData .u64 Lib.pow10Tab)] W := h.tail.tail
  exact Lib.tabBelow_of_tabIs (Lib.tabIs_of_head gPow gPowType Tryd.underlying101 Tryd.underlying53 cellsU64 cellsPow h2)

end Go.Proofs.YtbgfdeicjaencaaDoor
