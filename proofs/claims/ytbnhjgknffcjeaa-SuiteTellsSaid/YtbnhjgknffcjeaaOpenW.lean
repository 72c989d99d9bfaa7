/-
  A number of 64 bits that came in.
-/
import Derived.Test.YtbnhjgknffcjeaaOpen
set_option linter.unusedVariables false
set_option linter.unusedSimpArgs false
namespace Go.Proofs.Ytbnhjgknffcjeaa
open Go.ChangeShapes Go.WideShapes Go.ChangeAt Go.RowKit
theorem u64_of_wf (z : Int) (h : (Lit.int .u64 z).wf = true) : (Value.int .u64 z) = .int .u64 (n64 (UInt64.ofNat z.toNat)) := by
  have hb := bounds_u64 h
  have : z = ((n64 (UInt64.ofNat z.toNat) : Nat) : Int) := by
    have h1 : z.toNat < 18446744073709551616 := by omega
    rw [← n64_lit z.toNat h1]; omega
  rw [← this]
end Go.Proofs.Ytbnhjgknffcjeaa
