/-
  What a row says of the tables, where it lists the handle of the type 'error' too.
-/
import Derived.Test.YthkggeohdclffaaDoorTab2
import Derived.LaidHandle
import Derived.LaidLaws
set_option linter.unusedVariables false
set_option linter.unusedSimpArgs false
set_option maxRecDepth 100000
namespace Go.Proofs.YthkggeohdclffaaDoor
open Go.RowKit
theorem tab_nests {W : World} (hL : laidMetH Tryd.prog Rows.derNestsRow.laid W) : Lib.TabIs Tryd.prog W "internal/strconv.uint64pow10" .u64 Lib.pow10Tab := by
  have h' : laidMet Tryd.prog Rows.derOneWayRow.laid W ∧ handlesMet Tryd.prog [("errors.errorType", Rows.laid_errors_errorType)] W := hL
  exact tab_pow10 h'.1
end Go.Proofs.YthkggeohdclffaaDoor
