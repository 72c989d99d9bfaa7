/-
  What the types of this seat hold: closed facts.
-/
import Derived.Test.YtncaplplkfihgaaGreatDoorRow
import Derived.Test.YtncaplplkfihgaaGreatDoorProg
set_option linter.unusedVariables false
set_option linter.unusedSimpArgs false
set_option maxRecDepth 100000
namespace Go.Proofs.YtncaplplkfihgaaGreatDoor
open Go.RowKit
theorem ty256 : AggT Tryz.prog 181 256 := ⟨by kernel_rfl, by kernel_rfl⟩
theorem zero256 : (Tryz.prog.info? 181).bind (·.zero) = some (.agg (arr (List.replicate 256 0))) := by kernel_rfl
end Go.Proofs.YtncaplplkfihgaaGreatDoor
