/-
  The walks of layer 7's live question and of the statement AesApart.
-/
import Derived.Test.YthigbggacgiamaaDoorAesEa
import Derived.Test.YthigbggacgiamaaDoorAesEb
import Derived.Test.YthigbggacgiamaaDoorAesLaw
import Derived.Test.YthigbggacgiamaaDoorJa
set_option linter.unusedVariables false
set_option linter.unusedSimpArgs false
set_option maxRecDepth 100000
namespace Go.Proofs.YthigbggacgiamaaDoor
open Go.RowKit
namespace Aes
def headKey (k : Nat) : List UInt8 := (List.range k).map UInt8.ofNat
def headStep (k : Nat) (l : List UInt8) : List UInt8 := l.set k (17 * UInt8.ofNat k)
def headBlock (k : Nat) : List UInt8 := iter headStep k (List.replicate 16 0)
def headAnswer : List UInt8 := [0x69, 0xc4, 0xe0, 0xd8, 0x6a, 0x7b, 0x04, 0x30, 0xd8, 0xcd, 0xb7, 0x80, 0x70, 0xb4, 0xc5, 0x5a]
theorem headKey_len (k : Nat) : (headKey k).length = k := by simp [headKey]
theorem headKey_succ (k : Nat) : headKey (k + 1) = headKey k ++ [UInt8.ofNat k] := by simp [headKey, List.range_succ]
theorem headBlock_succ (k : Nat) : headBlock (k + 1) = (headBlock k).set k (17 * UInt8.ofNat k) := rfl
theorem headBlock_len (k : Nat) : (headBlock k).length = 16 := (iter_keeps headStep (fun s => s.length) (fun k s => by simp [headStep]) k _).trans List.length_replicate
theorem head_right : enc (keys (headKey 16)) (headBlock 16) = headAnswer := by decide +kernel
theorem keys_len (key : List UInt8) (h : key.length = 16 ∨ key.length = 32) : (keys key).length = if key.length = 16 then 11 else 15 := by
  rw [keys, pieces_len]
end Aes
theorem wrap_u8_17 (k : Nat) : IntKind.u8.wrap (17 * (k : Int)) = ((n8 (17 * UInt8.ofNat k) : Nat) : Int) := by
  rw [show (17 * (k : Int)) = ((17 * k : Nat) : Int) by omega]; rw [wrap_u8_nat, UInt8.ofNat_mul]; rfl
theorem new_made (A : Option Addr) (c : Nat) (key : List UInt8) (n : Nat) (w : World) (hr : ReadsB w w.heap.size A n key) (hn : n = 16 ∨ n = 32) :
    Calls Tryd.prog 59 #[.slice A n c] w fun e w' => ∃ g, e = .returned (.tuple #[.pointer (some ⟨g, 0, none⟩), .int .i64 0]) ∧ KeyAt w' g (Aes.keys key) ∧ Below w.heap.size w w' := by
  rcases hn with rfl | rfl
  · exact new_made16 A c key w hr
  · exact new_made32 A c key w hr
/-- How many round keys a key has, and that each is a block. -/
theorem keys_some (key : List UInt8) (h : key.length = 16 ∨ key.length = 32) : 1 ≤ (Aes.keys key).length ∧ (Aes.keys key).length ≤ 100 := by
  rw [Aes.keys_len key h]
  split <;> omega
theorem apart_law (rs : List (List UInt8)) (h1 : 1 ≤ rs.length) (hr : ∀ i, i < rs.length → (rs.getD i []).length = 16) (x y : List UInt8) (hx : x.length = 16) (hy : y.length = 16) :
    (decide (Aes.enc rs x = Aes.enc rs y) == decide (x = y)) = true := by
  rw [beq_iff_eq]
  apply decide_eq_decide.2
  exact ⟨Aes.enc_inj rs h1 hr x y hx hy, fun h => by rw [h]⟩
theorem enter_encrypt (args : Array Value) (w : World) : (callFunc 61 args).run Tryd.prog w = .ok (.enter 61 args) w := by kernel_rfl
end Go.Proofs.YthigbggacgiamaaDoor
