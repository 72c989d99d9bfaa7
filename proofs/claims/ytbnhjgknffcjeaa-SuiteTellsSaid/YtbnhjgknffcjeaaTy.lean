/-
  What the types of this seat hold: closed facts.
-/
import Derived.Test.YtbnhjgknffcjeaaRow
import Derived.Test.YtbnhjgknffcjeaaProg
set_option linter.unusedVariables false
set_option linter.unusedSimpArgs false
namespace Go.Proofs.Ytbnhjgknffcjeaa
open Go.RowKit
theorem ty16 : AggT Try.prog 63 16 := ⟨by kernel_rfl, by kernel_rfl⟩
theorem ty4 : AggT Try.prog 79 4 := ⟨by kernel_rfl, by kernel_rfl⟩
theorem ty12 : AggT Try.prog 22 12 := ⟨by kernel_rfl, by kernel_rfl⟩
theorem ty256 : AggT Try.prog 74 256 := ⟨by kernel_rfl, by kernel_rfl⟩
theorem zero256 : (Try.prog.info? 74).bind (·.zero) = some (.agg (arr (List.replicate 256 0))) := by kernel_rfl
theorem zero16 : (Try.prog.info? 63).bind (·.zero) = some (.agg (arr (List.replicate 16 0))) := by kernel_rfl
theorem zero4 : (Try.prog.info? 79).bind (·.zero) = some (.agg (arr (List.replicate 4 0))) := by kernel_rfl
theorem built4 (a b c d : Value) (ha : a.cells = #[a]) (hb : b.cells = #[b]) (hc : c.cells = #[c]) (hd : d.cells = #[d]) : Try.prog.built 79 [(0, a), (1, b), (2, c), (3, d)] = some #[a, b, c, d] := by
  have e : ∀ parts, Try.prog.built 79 parts = Instr.fill (fun i => some (i * 1, 1)) #[.int .u8 0, .int .u8 0, .int .u8 0, .int .u8 0] parts := fun parts => by kernel_rfl
  rw [e]; simp [Instr.fill, ha, hb, hc, hd, Array.zipIdx]
theorem built_key (parts : List (Nat × Value)) : Try.prog.built 113 parts = Instr.fill (fun i => (#[(0, 1), (1, 256)] : Array (Nat × Nat))[i]?) (#[Value.slice none 0 0] ++ arr (List.replicate 256 0)) parts := by kernel_rfl
end Go.Proofs.Ytbnhjgknffcjeaa
