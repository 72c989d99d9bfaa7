/-
  What the types of this seat hold: closed facts.
-/
import Derived.Test.YtkacibgbpeeflaaDoorRow
import Derived.Test.YtkacibgbpeeflaaDoorProg
set_option linter.unusedVariables false
set_option linter.unusedSimpArgs false
namespace Go.Proofs.YtkacibgbpeeflaaDoor
open Go.RowKit
end Go.Proofs.YtkacibgbpeeflaaDoor
