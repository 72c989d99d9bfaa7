/-
  AesBlocks' walk at every input.
-/
import Derived.Test.YtbbfckdcfbacpaaBlocks
set_option linter.unusedVariables false
set_option linter.unusedSimpArgs false
namespace Go.Proofs.Ytbbfckdcfbacpaa
open Go.RowKit
theorem blocks_all (A : Option Addr) (n c : Nat) (key : List UInt8) (D : Option Addr) (m d : Nat) (rows : Nat → List UInt8) (w : World) (hr : ReadsB w w.heap.size A n key) (hc : n ≤ c) (hm : c ≤ 140737488351232) (hrows : Reads16 w w.heap.size D m rows) :
    Calls Try.prog 3 #[.slice A n c, .slice D m d] w fun e w' => e = .returned (.bool true) ∧ Below w.heap.size w w' := by
  by_cases h16 : n = 16
  · exact blocks_made A n c key D m d rows w hr (.inl h16) hrows
  · by_cases h32 : n = 32
    · exact blocks_made A n c key D m d rows w hr (.inr h32) hrows
    · exact blocks_refused A n c key D m d w hr (by omega) h16 h32
end Go.Proofs.Ytbbfckdcfbacpaa
