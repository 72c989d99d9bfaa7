/-
  AesCounts' walk at every input.
-/
import Derived.Test.YtbbfckdcfbacpaaAesG
set_option linter.unusedVariables false
set_option linter.unusedSimpArgs false
namespace Go.Proofs.Ytbbfckdcfbacpaa
open Go.RowKit
theorem counts_all (A : Option Addr) (n c : Nat) (key ctr : List UInt8) (D : Option Addr) (m d : Nat) (b : List UInt8) (cut : UInt8) (w : World) (hr : ReadsB w w.heap.size A n key) (_hc : n ≤ c) (_hm : c ≤ 140737488351232) (hctr : ctr.length = 16)
    (hb : ReadsB w w.heap.size D m b) (hmd : m ≤ d) (hd : d ≤ 140737488351232) :
    Calls Try.prog 6 #[.slice A n c, .agg (arr ctr), .slice D m d, .int .u8 (n8 cut)] w fun e w' => e = .returned (.bool true) ∧ Below w.heap.size w w' := by
  by_cases h16 : n = 16
  · exact counts_made A n c key ctr hctr D m d b cut w hr (.inl h16) hb hmd (by omega)
  · by_cases h32 : n = 32
    · exact counts_made A n c key ctr hctr D m d b cut w hr (.inr h32) hb hmd (by omega)
    · exact counts_refused A n c ctr D m d cut w h16 h32
end Go.Proofs.Ytbbfckdcfbacpaa
