/-
  What DerTimes' row says of the table of tens.
-/
import Derived.Test.YthkggeohdclffaaDoorTab2
set_option linter.unusedVariables false
set_option linter.unusedSimpArgs false
set_option maxRecDepth 100000
namespace Go.Proofs.YthkggeohdclffaaDoor
open Go.RowKit
theorem tab_times {W : World} (hL : laidMetH Tryd.prog Rows.derTimesRow.laid W) : Lib.TabIs Tryd.prog W "internal/strconv.uint64pow10" .u64 Lib.pow10Tab := by
  have h : laidMet Tryd.prog Rows.derTimesRow.laid W := hL
  unfold Rows.derTimesRow at h
  simp only [laidPow_is] at h
  exact tabIs_third gPow gPowt Tryd.underlying146 Tryd.underlying76 (by kernel_rfl) (by kernel_rfl) h
end Go.Proofs.YthkggeohdclffaaDoor
