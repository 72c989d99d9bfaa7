/-
  What a row says of the handle of the type 'error'.
-/
import Derived.Test.YthkggeohdclffaaDoorTab3
import Derived.ChangeBears2
set_option linter.unusedVariables false
set_option linter.unusedSimpArgs false
set_option maxRecDepth 100000
namespace Go.Proofs.YthkggeohdclffaaDoor
open Go.RowKit
theorem error_one : (List.range Tryd.prog.types.size).all (fun t => !Tryd.prog.rowNamed t [101, 114, 114, 111, 114] || t == 53) = true := by kernel_rfl
theorem error_is {t : TypeId} (h1 : t < Tryd.prog.types.size) (h2 : Tryd.prog.rowNamed t [101, 114, 114, 111, 114] = true) : t = 53 := by
  have h := List.all_eq_true.1 error_one t (List.mem_range.2 h1)
  rw [h2] at h
  simpa using h
theorem handle_is : typeHandle Tryd.prog 53 = .pointer (some ⟨9, 53, none⟩) := by kernel_rfl
theorem gErr : Tryd.prog.globalNamed "errors.errorType" = some 0 := by kernel_rfl
theorem err_handle {W : World} (hL : handlesMet Tryd.prog [("errors.errorType", Rows.laid_errors_errorType)] W) : W.cell? ⟨0, 0, none⟩ = some (.iface 108 (.agg #[.pointer (some ⟨9, 53, none⟩)])) := by
  have h := hL ("errors.errorType", Rows.laid_errors_errorType) List.mem_cons_self
  have e0 : (Rows.laid_errors_errorType : DataW Unit).funcsIn? = none := by kernel_rfl
  simp only [e0] at h
  obtain ⟨name, u, ty, h1, h2, h3, h4, h5⟩ := h
  have e1 : (Rows.laid_errors_errorType : DataW Unit).handleName? = some [101, 114, 114, 111, 114] := by kernel_rfl
  obtain rfl : [101, 114, 114, 111, 114] = name := Option.some.inj (e1.symm.trans h1)
  obtain rfl := error_is h3 h4
  have e2 : (Tryd.prog.cutTypes.find? (·.1 == "internal/reflectlite.rtype")).map (·.2) = some 108 := by kernel_rfl
  obtain rfl : 108 = u := Option.some.inj (e2.symm.trans h2)
  rw [var?_cell gErr h5 0, handle_is]
  rfl
theorem tab_items {W : World} (hL : laidMetH Tryd.prog Rows.derItemsUptoRow.laid W) : Lib.TabIs Tryd.prog W "internal/strconv.uint64pow10" .u64 Lib.pow10Tab ∧ W.cell? ⟨0, 0, none⟩ = some (.iface 108 (.agg #[.pointer (some ⟨9, 53, none⟩)])) := by
  have h' : laidMet Tryd.prog Rows.derOneWayRow.laid W ∧ handlesMet Tryd.prog [("errors.errorType", Rows.laid_errors_errorType)] W := hL
  exact ⟨tab_pow10 h'.1, err_handle h'.2⟩
end Go.Proofs.YthkggeohdclffaaDoor
