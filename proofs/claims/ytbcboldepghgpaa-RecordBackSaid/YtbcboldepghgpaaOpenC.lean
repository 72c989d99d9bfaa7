/-
  A slice of ints that came in.
-/
import Derived.Test.YtbcboldepghgpaaOpenP
set_option linter.unusedVariables false
set_option linter.unusedSimpArgs false
set_option maxRecDepth 100000
namespace Go.Proofs.Ytbcboldepghgpaa
open Go.ChangeShapes Go.WideShapes Go.ChangeAt Go.RowKit Go.Deep Go.WideElems Go.Joins
theorem cells_of_int : Try.prog.cellsOf 3 = 1 := by kernel_rfl
theorem open_cuts {W : World} {H : Type} {enc : TypeId × Value → H} {held : Bool} {d : DataW H} {p : List MemPlace} {a : Option Addr} {len cap : Nat} (h : DataW.Trod enc Try.prog W 0 (fun _ => true) held 45 (.slice a len cap) d p) :
    len ≤ cap ∧ cap ≤ maxLen ∧ ∀ i, i < len → ∃ (x : Addr) (v : Int), a = some x ∧ W.cell? (x.add i) = some (.int .i64 v) ∧ -9223372036854775808 ≤ v ∧ v ≤ 9223372036854775807 := by
  obtain ⟨fuel, hf⟩ := h
  rcases open_ints Try.underlying45 Try.underlying3 cells_of_int hf with ⟨hcs, _⟩ | ⟨x, l, c, zs, hcs, _, hl, hm, hz, hx, hc, hw⟩
  · simp [Value.cells] at hcs
    obtain ⟨rfl, rfl, rfl⟩ := hcs
    exact ⟨Nat.le_refl _, by simp, fun i h => absurd h (Nat.not_lt_zero _)⟩
  · simp [Value.cells] at hcs
    obtain ⟨rfl, rfl, rfl⟩ := hcs
    simp only [if_true] at hz
    refine ⟨hl, hm, fun i hi => ?_⟩
    have hiz : i < zs.length := by omega
    have h1 := hc i hiz
    have h2 := hw zs[i] (List.getElem_mem hiz)
    have e : zs.getD i 0 = zs[i] := by rw [List.getD_eq_getElem?_getD, List.getElem?_eq_getElem hiz]; rfl
    rw [e] at h1
    have h3 : -9223372036854775808 ≤ zs[i] ∧ zs[i] ≤ 9223372036854775807 := by
      unfold Lit.wf at h2
      rw [Bool.and_eq_true, decide_eq_true_eq, decide_eq_true_eq] at h2
      exact h2
    exact ⟨x, zs[i], rfl, h1, h3.1, h3.2⟩
end Go.Proofs.Ytbcboldepghgpaa
