/-
  An array filled byte by byte.
-/
import Derived.Test.YtbcboldepghgpaaGreatDoorMore
set_option linter.unusedVariables false
set_option linter.unusedSimpArgs false
set_option maxRecDepth 100000
namespace Go.Proofs.YtbcboldepghgpaaGreatDoor
open Go.RowKit
namespace Suite
def fillStep (q : List UInt8) (k : Nat) (s : List UInt8) : List UInt8 := s.set k (nth q k)
theorem fill_take (n : Nat) (q : List UInt8) : ∀ k, k ≤ q.length → k ≤ n → iter (fillStep q) k (List.replicate n 0) = q.take k ++ List.replicate (n - k) 0
  | 0, _, _ => rfl
  | k + 1, hk, h16 => by
    rw [iter, fill_take n q k (by omega) (by omega), fillStep, take_next _ _ (by omega), List.set_append]
    rw [if_neg (by rw [List.length_take]; omega), List.length_take, show k - min k q.length = 0 by omega, show n - k = (n - (k + 1)) + 1 by omega, List.replicate_succ, List.set_cons_zero, List.append_assoc]
    rfl
theorem fill_all (q : List UInt8) : iter (fillStep q) q.length (List.replicate q.length 0) = q := by
  rw [fill_take _ _ _ (Nat.le_refl _) (Nat.le_refl _), List.take_length, Nat.sub_self]; simp
theorem fillStep_len (q s : List UInt8) (k : Nat) : (iter (fillStep q) k s).length = s.length := iter_keeps _ _ (fun k s => by simp [fillStep]) k s
end Suite
end Go.Proofs.YtbcboldepghgpaaGreatDoor
