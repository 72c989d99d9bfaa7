/-
  Patterns, plain.
-/
import Derived.Test.YtncaplplkfihgaaGreatDoorHoF
set_option linter.unusedVariables false
set_option linter.unusedSimpArgs false
set_option maxRecDepth 100000
namespace Go.Proofs.YtncaplplkfihgaaGreatDoor
namespace Host
/-- What is asked of a pattern and a host. -/
def mat (p n : List UInt8) : Bool := decide (0 < lab n) && (if p.take 2 = [42, 46] then decide (2 ≤ lab (p.drop 2)) && decide (low (p.drop 2) = low (behind n)) else decide (0 < lab p) && decide (low p = low n))
theorem star_form {p : List UInt8} (h : p.take 2 = [42, 46]) : p = [42] ++ 46 :: p.drop 2 := by
  conv => lhs; rw [← List.take_append_drop 2 p, h]
  rfl
/-- A star is no letter of a label. -/
theorem star_bad {p : List UInt8} (h : p.take 2 = [42, 46]) : lab p = 0 := by
  refine lab_bad (p := [42]) ?_ ?_
  · rw [star_form h, parts_dot]
    have e : (st [42]).2 = [42] := rfl
    rw [e]
    simp
  · intro h2
    have h3 := h2.2.2.2.2 42 (by simp)
    exact absurd h3 (by decide)
theorem lab_nil : lab [] = 0 := lab_bad (l := []) (p := []) (by simp [parts, st]) (fun h => by have := h.1; simp at this)
end Host
end Go.Proofs.YtncaplplkfihgaaGreatDoor
