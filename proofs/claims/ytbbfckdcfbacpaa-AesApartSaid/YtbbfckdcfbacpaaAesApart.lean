/-
  AesApart's walk at every input.
-/
import Derived.Test.YtbbfckdcfbacpaaAesF
set_option linter.unusedVariables false
set_option linter.unusedSimpArgs false
namespace Go.Proofs.Ytbbfckdcfbacpaa
open Go.RowKit
theorem apart_all (A : Option Addr) (n c : Nat) (key a b : List UInt8) (w : World) (hr : ReadsB w w.heap.size A n key) (_hc : n ≤ c) (_hm : c ≤ maxLen) (ha : a.length = 16) (hb : b.length = 16) :
    Calls Try.prog 4 #[.slice A n c, .agg (arr a), .agg (arr b)] w fun e w' => e = .returned (.bool true) ∧ Below w.heap.size w w' := by
  by_cases h16 : n = 16
  · exact apart_made A n c key a b ha hb w hr (.inl h16)
  · by_cases h32 : n = 32
    · exact apart_made A n c key a b ha hb w hr (.inr h32)
    · exact apart_refused A n c a b w h16 h32
end Go.Proofs.Ytbbfckdcfbacpaa
