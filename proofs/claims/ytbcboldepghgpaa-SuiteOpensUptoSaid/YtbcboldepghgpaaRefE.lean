/-
  The reference's New at any key; the walk of the statement AesStreams.
-/
import Derived.Test.YtbcboldepghgpaaRefC
import Derived.Test.YtbcboldepghgpaaRefD
import Derived.Test.YtbcboldepghgpaaJa
set_option linter.unusedVariables false
set_option linter.unusedSimpArgs false
set_option maxRecDepth 100000
namespace Go.Proofs.Ytbcboldepghgpaa
open Go.RowKit
set_option maxHeartbeats 400000 in
set_option maxRecDepth 100000 in
theorem ref_new_refused (A : Option Addr) (n c : Nat) (w : World) (h16 : n ≠ 16) (h32 : n ≠ 32) :
    Calls Try.prog 49 #[.slice A n c] w fun e w' => e = .returned (.tuple #[.pointer none, .int .i64 1]) ∧ w = w' := by
  have t1 : ((n : Int) == 16) = false := by rw [beq_eq_false_iff_ne]; omega
  have t2 : ((n : Int) == 32) = false := by rw [beq_eq_false_iff_ne]; omega
  have t3 : ((n : Int) != 16) = true := by rw [bne, t1]; rfl
  have t4 : ((n : Int) != 32) = true := by rw [bne, t2]; rfl
  go_enter Try.func49, Try.ntmps49
  go_wp2
  go_ret2
  exact ⟨rfl, rfl⟩
theorem ref_new_made (A : Option Addr) (c : Nat) (key : List UInt8) (n : Nat) (w : World) (hr : ReadsB w w.heap.size A n key) (hn : n = 16 ∨ n = 32) :
    Calls Try.prog 49 #[.slice A n c] w fun e w' => ∃ g, e = .returned (.tuple #[.pointer (some ⟨g, 0, none⟩), .int .i64 0]) ∧ RefAt w' g (Aes.keys key) ∧ Below w.heap.size w w' := by
  rcases hn with rfl | rfl
  · exact ref_new_made16 A c key w hr
  · exact ref_new_made32 A c key w hr
theorem keys_most (key : List UInt8) (h : key.length = 16 ∨ key.length = 32) : (Aes.keys key).length ≤ 15 := by
  rw [Aes.keys_len key h]
  split <;> omega
theorem enter_stream (args : Array Value) (w : World) : (callFunc 90 args).run Try.prog w = .ok (.enter 90 args) w := by kernel_rfl
theorem enter_rstream (args : Array Value) (w : World) : (callFunc 68 args).run Try.prog w = .ok (.enter 68 args) w := by kernel_rfl
theorem ReadsB.next {w w' : World} {A : Option Addr} {n : Nat} {l : List UInt8} (h : ReadsB w w.heap.size A n l) (hb : Below w.heap.size w w') : ReadsB w' w'.heap.size A n l := ⟨h.len, (h.is.below hb).more hb.size⟩
end Go.Proofs.Ytbcboldepghgpaa
