/-
  AesStreams' walk at every input.
-/
import Derived.Test.YtbbfckdcfbacpaaRefE
set_option linter.unusedVariables false
set_option linter.unusedSimpArgs false
namespace Go.Proofs.Ytbbfckdcfbacpaa
open Go.RowKit
theorem streams_all (A : Option Addr) (n c : Nat) (key ctr : List UInt8) (D : Option Addr) (m d : Nat) (b : List UInt8) (w : World) (hr : ReadsB w w.heap.size A n key) (_hc : n ≤ c) (_hm : c ≤ 140737488351232) (hctr : ctr.length = 16)
    (hb : ReadsB w w.heap.size D m b) (hmd : m ≤ d) (hd : d ≤ 140737488351232) :
    Calls Try.prog 5 #[.slice A n c, .agg (arr ctr), .slice D m d] w fun e w' => e = .returned (.bool true) ∧ Below w.heap.size w w' := by
  by_cases h16 : n = 16
  · exact streams_made A n c key ctr hctr D m d b w hr (.inl h16) hb (by omega)
  · by_cases h32 : n = 32
    · exact streams_made A n c key ctr hctr D m d b w hr (.inr h32) hb (by omega)
    · exact streams_refused A n c ctr D m d w h16 h32
end Go.Proofs.Ytbbfckdcfbacpaa
