/-
  A table of powers of ten, out of what a row says of it.
-/
import Derived.Test.YthkggeohdclffaaDoorCards
import Derived.Test.YthkggeohdclffaaDoorTie
import Derived.Test.YthkggeohdclffaaDoorDerD
import Derived.Deep.DeepHandedRow
import Derived.Lib.LaidTab
set_option linter.unusedVariables false
set_option linter.unusedSimpArgs false
set_option maxRecDepth 100000
namespace Go.Proofs.YthkggeohdclffaaDoor
open Go.RowKit
theorem laidPow_is : (Rows.laid_internal_strconv_uint64pow10 : DataW Unit) = Lib.tabData .u64 Lib.pow10Tab := by kernel_rfl
theorem tabIs_third {P : Program} {W : World} {name n0 n1 : String} {k : IntKind} {zs : List Int} {d0 d1 : DataW Unit} {rest : List (String × DataW Unit)} {g : Nat} {t e : TypeId} {n : Nat}
    (hg : P.globalNamed name = some g) (hty : (P.globals[g]?).map (·.type) = some t) (ht : P.underlying t = some (.array n e)) (he : P.underlying e = some (.int k)) (hce : P.cellsOf e = 1) (hct : P.cellsOf t = n)
    (h : laidMet P ((n0, d0) :: (n1, d1) :: (name, Lib.tabData k zs) :: rest) W) : Lib.TabIs P W name k zs := by
  obtain ⟨ps, ⟨_, _, _, _, _, _, _, _, _, _, ⟨_, _, _, _, _, _, _, _, _, _, ⟨g', t', cs, fuel, p, q, hg', ht', hvar, hd, _, _⟩, _⟩, _⟩, _⟩ := h
  obtain rfl := Option.some.inj (hg.symm.trans hg')
  obtain rfl := Option.some.inj (hty.symm.trans ht')
  unfold Lib.TabIs
  rw [hvar, ← Lib.cells_of_tab ht he hce hct hd]
theorem gPow : Tryd.prog.globalNamed "internal/strconv.uint64pow10" = some 3 := by kernel_rfl
theorem gPowt : (Tryd.prog.globals[3]?).map (·.type) = some 146 := by kernel_rfl
theorem tab_pow10 {W : World} (hL : laidMetH Tryd.prog Rows.derOneWayRow.laid W) : Lib.TabIs Tryd.prog W "internal/strconv.uint64pow10" .u64 Lib.pow10Tab := by
  have h : laidMet Tryd.prog Rows.derOneWayRow.laid W := hL
  unfold Rows.derOneWayRow at h
  simp only [laidPow_is] at h
  exact tabIs_third gPow gPowt Tryd.underlying146 Tryd.underlying76 (by kernel_rfl) (by kernel_rfl) h
end Go.Proofs.YthkggeohdclffaaDoor
