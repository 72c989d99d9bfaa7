/-
  What layer 8's statements say of products and of XOR, in plain Lean.
-/
import Derived.Test.YtbcboldepghgpaaJa
set_option linter.unusedVariables false
set_option linter.unusedSimpArgs false
set_option maxRecDepth 100000
namespace Go.Proofs.Ytbcboldepghgpaa
open Go.RowKit
namespace Gcm
theorem xor_nth (q s : List UInt8) (k i : Nat) (hk : k ≤ s.length) : nth (iter (Aes.xorStep q) k s) i = if i < k then nth s i ^^^ nth q i else nth s i := by
  induction k generalizing i with
  | zero => rw [iter, if_neg (by omega)]
  | succ k ih =>
    rw [iter, Aes.xorStep, Aes.nth_set _ _ _ _ (by rw [Aes.xorStep_len]; omega), ih _ (by omega), ih _ (by omega)]
    by_cases h : i = k
    · subst h; rw [if_pos rfl, if_neg (by omega), if_pos (by omega)]
    · rw [if_neg h]
      by_cases h2 : i < k
      · rw [if_pos h2, if_pos (by omega)]
      · rw [if_neg h2, if_neg (by omega)]
theorem poly_xor (a b : List UInt8) (ha : a.length = 16) : poly (Aes.xor16 a b) = poly a ^^^ poly b := by
  apply poly_ext
  intro p hp
  rw [Gf.co_xor, poly_bit _ _ hp, poly_bit _ _ hp, poly_bit _ _ hp, Aes.xor16_eq, xor_nth _ _ _ _ (by omega), if_pos (by omega), UInt8.toBitVec_xor, BitVec.getLsbD_xor]
def zeros : List UInt8 := List.replicate 16 0
def one : List UInt8 := 128 :: List.replicate 15 0
theorem poly_zeros : poly zeros = 0#128 := by decide +kernel
theorem poly_one : poly one = Gf.one := by decide +kernel
theorem zeros_len : zeros.length = 16 := rfl
theorem mul_comm (a b : List UInt8) : mul a b = mul b a := poly_inj _ _ (mul_len _ _) (mul_len _ _) (by rw [poly_mul, poly_mul, Gf.mul_comm])
theorem mul_assoc (a b c : List UInt8) : mul (mul a b) c = mul a (mul b c) := poly_inj _ _ (mul_len _ _) (mul_len _ _) (by rw [poly_mul, poly_mul, poly_mul, poly_mul, Gf.mul_assoc])
theorem mul_xor (a b c : List UInt8) (ha : a.length = 16) : mul (Aes.xor16 a b) c = Aes.xor16 (mul a c) (mul b c) :=
  poly_inj _ _ (mul_len _ _) (by rw [Aes.xor16_len, mul_len]) (by rw [poly_mul, poly_xor _ _ ha, poly_xor _ _ (mul_len _ _), poly_mul, poly_mul, Gf.mul_xor_left])
theorem mul_one (a : List UInt8) (ha : a.length = 16) : mul a one = a := poly_inj _ _ (mul_len _ _) ha (by rw [poly_mul, poly_one, Gf.mul_one])
theorem mul_none (a b : List UInt8) (ha : a.length = 16) (hb : b.length = 16) (h : mul a b = zeros) : a = zeros ∨ b = zeros := by
  have h2 := congrArg poly h
  rw [poly_mul, poly_zeros] at h2
  rcases Gf.no_zero _ _ h2 with h3 | h3
  · exact .inl (poly_inj _ _ ha zeros_len (by rw [h3, poly_zeros]))
  · exact .inr (poly_inj _ _ hb zeros_len (by rw [h3, poly_zeros]))
theorem mul_zero (b : List UInt8) : mul zeros b = zeros := poly_inj _ _ (mul_len _ _) zeros_len (by rw [poly_mul, poly_zeros, Gf.mul_zero_left])
end Gcm
end Go.Proofs.Ytbcboldepghgpaa
