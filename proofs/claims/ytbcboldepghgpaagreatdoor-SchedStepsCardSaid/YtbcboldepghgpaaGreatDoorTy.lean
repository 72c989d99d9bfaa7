/-
  What the types of this seat hold: closed facts.
-/
import Derived.Test.YtbcboldepghgpaaGreatDoorRow
import Derived.Test.YtbcboldepghgpaaGreatDoorProg
set_option linter.unusedVariables false
set_option linter.unusedSimpArgs false
set_option maxRecDepth 100000
namespace Go.Proofs.YtbcboldepghgpaaGreatDoor
open Go.RowKit
theorem ty16 : AggT Tryz.prog 72 16 := ⟨by kernel_rfl, by kernel_rfl⟩
theorem ty4 : AggT Tryz.prog 126 4 := ⟨by kernel_rfl, by kernel_rfl⟩
theorem ty12 : AggT Tryz.prog 29 12 := ⟨by kernel_rfl, by kernel_rfl⟩
theorem ty256 : AggT Tryz.prog 121 256 := ⟨by kernel_rfl, by kernel_rfl⟩
theorem zero256 : (Tryz.prog.info? 121).bind (·.zero) = some (.agg (arr (List.replicate 256 0))) := by kernel_rfl
theorem zero16 : (Tryz.prog.info? 72).bind (·.zero) = some (.agg (arr (List.replicate 16 0))) := by kernel_rfl
theorem zero4 : (Tryz.prog.info? 126).bind (·.zero) = some (.agg (arr (List.replicate 4 0))) := by kernel_rfl
theorem built4 (a b c d : Value) (ha : a.cells = #[a]) (hb : b.cells = #[b]) (hc : c.cells = #[c]) (hd : d.cells = #[d]) : Tryz.prog.built 126 [(0, a), (1, b), (2, c), (3, d)] = some #[a, b, c, d] := by
  have e : ∀ parts, Tryz.prog.built 126 parts = Instr.fill (fun i => some (i * 1, 1)) #[.int .u8 0, .int .u8 0, .int .u8 0, .int .u8 0] parts := fun parts => by kernel_rfl
  rw [e]; simp [Instr.fill, ha, hb, hc, hd, Array.zipIdx]
theorem built_key (parts : List (Nat × Value)) : Tryz.prog.built 125 parts = Instr.fill (fun i => (#[(0, 1), (1, 256)] : Array (Nat × Nat))[i]?) (#[Value.slice none 0 0] ++ arr (List.replicate 256 0)) parts := by kernel_rfl
end Go.Proofs.YtbcboldepghgpaaGreatDoor
