/-
  AES's stream, as the program reckons it: in plain Lean.
-/
import Derived.Test.YtncaplplkfihgaaGreatDoorAesSpec
set_option linter.unusedVariables false
set_option linter.unusedSimpArgs false
set_option maxRecDepth 100000
namespace Go.Proofs.YtncaplplkfihgaaGreatDoor
open Go.RowKit
namespace Aes
/-- A counter, from place i downwards, f places at most. -/
def incAt : Nat → Nat → List UInt8 → List UInt8
  | 0, _, l => l
  | f + 1, i, l => if nth l i + 1 = 0 then incAt f (i - 1) (l.set i (nth l i + 1)) else l.set i (nth l i + 1)
def inc (l : List UInt8) : List UInt8 := incAt 4 15 l
theorem incAt_len : ∀ (f i : Nat) (l : List UInt8), (incAt f i l).length = l.length
  | 0, _, _ => rfl
  | f + 1, i, l => by
    rw [incAt]
    split
    · rw [incAt_len f, List.length_set]
    · rw [List.length_set]
theorem inc_len (l : List UInt8) : (inc l).length = l.length := incAt_len _ _ _
theorem incAt_zero (i : Nat) (l : List UInt8) : incAt 0 i l = l := rfl
theorem incAt_on (f i : Nat) (l : List UInt8) (h : nth l i + 1 = 0) : incAt (f + 1) i l = incAt f (i - 1) (l.set i (nth l i + 1)) := by rw [incAt, if_pos h]
theorem incAt_off (f i : Nat) (l : List UInt8) (h : ¬ nth l i + 1 = 0) : incAt (f + 1) i l = l.set i (nth l i + 1) := by rw [incAt, if_neg h]
def xorAt (start : Nat) (x : List UInt8) (i : Nat) (out : List UInt8) : List UInt8 := out.set (start + i) (nth out (start + i) ^^^ nth x i)
theorem xorAt_len (start : Nat) (x out : List UInt8) (k : Nat) : (iter (xorAt start x) k out).length = out.length := iter_keeps _ _ (fun k s => by simp [xorAt]) k out
def strStep (rs : List (List UInt8)) (j : Nat) (s : List UInt8 × List UInt8) : List UInt8 × List UInt8 :=
  (iter (xorAt (16 * j) (enc rs s.2)) (min 16 (s.1.length - 16 * j)) s.1, inc s.2)
def strRun (rs : List (List UInt8)) (ctr b : List UInt8) (j : Nat) : List UInt8 × List UInt8 := iter (strStep rs) j (b, ctr)
theorem strRun_zero (rs : List (List UInt8)) (ctr b : List UInt8) : strRun rs ctr b 0 = (b, ctr) := rfl
theorem strRun_succ (rs : List (List UInt8)) (ctr b : List UInt8) (j : Nat) : strRun rs ctr b (j + 1) = strStep rs j (strRun rs ctr b j) := rfl
theorem strRun_len (rs : List (List UInt8)) (ctr b : List UInt8) (j : Nat) : (strRun rs ctr b j).1.length = b.length ∧ (strRun rs ctr b j).2.length = ctr.length := by
  induction j with
  | zero => exact ⟨rfl, rfl⟩
  | succ j ih => rw [strRun_succ, strStep]; exact ⟨(xorAt_len _ _ _ _).trans ih.1, (inc_len _).trans ih.2⟩
/-- A text XORed with the blocks that a counter counts. -/
def stream (rs : List (List UInt8)) (ctr b : List UInt8) : List UInt8 := (strRun rs ctr b ((b.length + 15) / 16)).1
theorem stream_len (rs : List (List UInt8)) (ctr b : List UInt8) : (stream rs ctr b).length = b.length := (strRun_len _ _ _ _).1
theorem stream_eq (rs : List (List UInt8)) (ctr b : List UInt8) : stream rs ctr b = (strRun rs ctr b ((b.length + 15) / 16)).1 := rfl
theorem inc_eq (l : List UInt8) : inc l = incAt 4 15 l := rfl
attribute [irreducible] inc stream strRun
end Aes
end Go.Proofs.YtncaplplkfihgaaGreatDoor
