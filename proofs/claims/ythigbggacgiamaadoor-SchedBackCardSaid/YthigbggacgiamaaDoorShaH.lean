/-
  The walks of the reference's small functions of layer 5.
-/
import Derived.Test.YthigbggacgiamaaDoorJg
set_option linter.unusedVariables false
set_option linter.unusedSimpArgs false
set_option maxRecDepth 100000
namespace Go.Proofs.YthigbggacgiamaaDoor
open Go.RowKit
namespace Sha
/-- How many noughts stand behind the 128, up to where the number of bits begins. -/
def padK (bs n : Nat) : Nat := (2 * bs - bs / 8 - 1 - n % bs) % bs
/-- What stands behind the bytes. -/
def endOf (bs : Nat) (l : List UInt8) : List UInt8 := 128 :: (List.replicate (padK bs l.length + (bs / 8 - 8)) 0 ++ spreadTo (UInt64.ofNat l.length * 8) 8 8)
theorem endOf_len (bs : Nat) (l : List UInt8) : (endOf bs l).length = 1 + (padK bs l.length + (bs / 8 - 8)) + 8 := by
  rw [endOf, List.length_cons, List.length_append, List.length_replicate, spreadTo_len]; omega
theorem times8 (n : Nat) (hn : n ≤ 140737488354000) : (n : Int) * 8 = ((n64 (UInt64.ofNat n * 8) : Nat) : Int) := by
  show (n : Int) * 8 = ((UInt64.ofNat n * 8).toNat : Int)
  rw [UInt64.toNat_mul, UInt64.toNat_ofNat']
  simp
  omega
end Sha
theorem rsize_1 (w : World) : Calls Tryd.prog 16 #[.int .i64 1] w fun e w' => e = .returned (.int .i64 32) ∧ w = w' := by
  go_enter Tryd.func16, Tryd.ntmps16
  go_wp2
  go_ret
  exact ⟨rfl, rfl⟩
theorem rsize_2 (w : World) : Calls Tryd.prog 16 #[.int .i64 2] w fun e w' => e = .returned (.int .i64 48) ∧ w = w' := by
  go_enter Tryd.func16, Tryd.ntmps16
  go_wp2
  go_ret
  exact ⟨rfl, rfl⟩
theorem rsize_3 (w : World) : Calls Tryd.prog 16 #[.int .i64 3] w fun e w' => e = .returned (.int .i64 64) ∧ w = w' := by
  go_enter Tryd.func16, Tryd.ntmps16
  go_wp2
  go_ret
  exact ⟨rfl, rfl⟩
theorem rsize_none (h : Int) (h1 : ¬ h = 1) (h2 : ¬ h = 2) (h3 : ¬ h = 3) (w : World) : Calls Tryd.prog 16 #[.int .i64 h] w fun e w' => e = .returned (.int .i64 0) ∧ w = w' := by
  go_enter Tryd.func16, Tryd.ntmps16
  go_wp2
  go_ret
  exact ⟨rfl, rfl⟩
end Go.Proofs.YthigbggacgiamaaDoor
