/-
  What the types of this seat hold: closed facts.
-/
import Derived.Test.YthkggeohdclffaaDoorRow
import Derived.Test.YthkggeohdclffaaDoorProg
set_option linter.unusedVariables false
set_option linter.unusedSimpArgs false
set_option maxRecDepth 100000
namespace Go.Proofs.YthkggeohdclffaaDoor
open Go.RowKit
theorem ty256 : AggT Tryd.prog 151 256 := ⟨by kernel_rfl, by kernel_rfl⟩
theorem zero256 : (Tryd.prog.info? 151).bind (·.zero) = some (.agg (arr (List.replicate 256 0))) := by kernel_rfl
end Go.Proofs.YthkggeohdclffaaDoor
