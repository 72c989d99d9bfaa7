/-
  What the reference's small steps of Galois counter mode are, in plain Lean: one bit, one step up.
-/
import Derived.Test.YtbcboldepghgpaaGcmLaw
import Derived.Test.YtbcboldepghgpaaAesLaw
set_option linter.unusedVariables false
set_option linter.unusedSimpArgs false
set_option maxRecDepth 100000
namespace Go.Proofs.Ytbcboldepghgpaa
open Go.RowKit
namespace Gcm
theorem shr8_bit_nat : ∀ i, i < 256 → ∀ n, n < 8 → (shr8 (UInt8.ofNat i) n &&& 1) = if (UInt8.ofNat i).toBitVec.getLsbD n then 1 else 0 := by decide +kernel
theorem shr8_bit (x : UInt8) (n : Nat) (hn : n < 8) : (shr8 x n &&& 1) = if x.toBitVec.getLsbD n then 1 else 0 :=
  Aes.all256 (P := fun x => ∀ n, n < 8 → (shr8 x n &&& 1) = if x.toBitVec.getLsbD n then 1 else 0) shr8_bit_nat x n hn
/-- The reference's bit is the polynomial's coefficient. -/
theorem bit_is (b : List UInt8) (i : Nat) (hi : i < 128) : (shr8 (nth b (i / 8)) (7 - i % 8) &&& 1) = if Gf.co (poly b) i then 1 else 0 := by
  rw [poly_bit _ _ hi, shr8_bit _ _ (by omega)]
def upByte (a : List UInt8) (j : Nat) : UInt8 := if j = 0 then nth a j >>> 1 else nth a j >>> 1 ||| nth a (j - 1) <<< 7
def upStep (k : Nat) (b : List UInt8) : List UInt8 := b.set (15 - k) (upByte b (15 - k))
theorem upStep_len (k : Nat) (b : List UInt8) : (iter upStep k b).length = b.length := iter_keeps _ _ (fun k s => by simp [upStep]) k b
theorem upStep_nth (a : List UInt8) (ha : a.length = 16) : ∀ k, k ≤ 16 → ∀ i, i < 16 → nth (iter upStep k a) i = if 16 - k ≤ i then upByte a i else nth a i
  | 0, _, i, hi => by rw [iter, if_neg (by omega)]
  | k + 1, hk, i, hi => by
    have ih := upStep_nth a ha k (by omega)
    rw [iter, upStep, Aes.nth_set _ _ _ _ (by rw [upStep_len]; omega)]
    by_cases h : i = 15 - k
    · have e0 := ih i hi
      rw [if_neg (by omega)] at e0
      rw [if_pos h, if_pos (by omega), upByte, upByte, ← h, e0]
      by_cases h0 : i = 0
      · rw [if_pos h0, if_pos h0]
      · have e1 := ih (i - 1) (by omega)
        rw [if_neg (by omega)] at e1
        rw [if_neg h0, if_neg h0, e1]
    · rw [if_neg h, ih i hi]
      by_cases h2 : 16 - k ≤ i
      · rw [if_pos h2, if_pos (by omega)]
      · rw [if_neg h2, if_neg (by omega)]
def upAll (a : List UInt8) : List UInt8 := if Gf.co (poly a) 127 then (iter upStep 16 a).set 0 (nth (iter upStep 16 a) 0 ^^^ 225) else iter upStep 16 a
theorem upAll_len (a : List UInt8) : (upAll a).length = a.length := by
  rw [upAll]; split
  · rw [List.length_set, upStep_len]
  · rw [upStep_len]
theorem upAll_nth (a : List UInt8) (ha : a.length = 16) (i : Nat) (hi : i < 16) : nth (upAll a) i = if Gf.co (poly a) 127 ∧ i = 0 then upByte a i ^^^ 225 else upByte a i := by
  have h := upStep_nth a ha 16 (Nat.le_refl _)
  rw [upAll]
  split
  · rename_i hc
    rw [Aes.nth_set _ _ _ _ (by rw [upStep_len]; omega)]
    by_cases h0 : i = 0
    · rw [if_pos h0, if_pos ⟨hc, h0⟩, h 0 (by omega), if_pos (by omega), h0]
    · rw [if_neg h0, if_neg (by rintro ⟨_, h1⟩; exact h0 h1), h i hi, if_pos (by omega)]
  · rename_i hc
    rw [if_neg (by rintro ⟨h1, _⟩; exact hc h1), h i hi, if_pos (by omega)]
theorem shr1_bit (x : UInt8) (t : Nat) (ht : t < 8) : (x >>> 1).toBitVec.getLsbD t = x.toBitVec.getLsbD (t + 1) := by
  rw [UInt8.toBitVec_shiftRight]
  show (x.toBitVec >>> 1).getLsbD t = _
  rw [BitVec.getLsbD_ushiftRight, Nat.add_comm]
theorem shl7_bit (x : UInt8) (t : Nat) (ht : t < 8) : (x <<< 7).toBitVec.getLsbD t = (decide (t = 7) && x.toBitVec.getLsbD 0) := by
  rw [UInt8.toBitVec_shiftLeft]
  show (x.toBitVec <<< 7).getLsbD t = _
  rw [BitVec.getLsbD_shiftLeft]
  by_cases h : t = 7
  · subst h; simp
  · simp [show t < 7 by omega, h]
theorem upByte_bit (a : List UInt8) (p : Nat) (hp : p < 128) : (upByte a (p / 8)).toBitVec.getLsbD (7 - p % 8) = (decide (0 < p) && Gf.co (poly a) (p - 1)) := by
  have hlast : ∀ x : UInt8, x.toBitVec.getLsbD 8 = false := fun x => BitVec.getLsbD_of_ge _ _ (by omega)
  rw [upByte]
  by_cases h0 : p = 0
  · subst h0
    rw [if_pos (by omega), shr1_bit _ _ (by omega)]
    simp
  rw [poly_bit _ _ (by omega)]
  by_cases h8 : p / 8 = 0
  · rw [if_pos h8, shr1_bit _ _ (by omega), show (p - 1) / 8 = p / 8 by omega, show 7 - (p - 1) % 8 = 7 - p % 8 + 1 by omega]
    simp [show 0 < p by omega]
  rw [if_neg h8, UInt8.toBitVec_or, BitVec.getLsbD_or, shr1_bit _ _ (by omega), shl7_bit _ _ (by omega)]
  by_cases hm : p % 8 = 0
  · rw [hm, show (p - 1) / 8 = p / 8 - 1 by omega, show 7 - (p - 1) % 8 = 0 by omega, hlast]
    simp [show 0 < p by omega]
  · rw [show (p - 1) / 8 = p / 8 by omega, show 7 - (p - 1) % 8 = 7 - p % 8 + 1 by omega]
    simp [show 0 < p by omega, show ¬ 7 - p % 8 = 7 by omega]
theorem R_bit : ∀ p, p < 128 → Gf.R.getLsbD (127 - p) = (decide (p < 8) && (225 : UInt8).toBitVec.getLsbD (7 - p)) := by decide +kernel
/-- The reference's step is the field's. -/
theorem poly_up (a : List UInt8) (ha : a.length = 16) : poly (upAll a) = Gf.up (poly a) := by
  apply poly_ext
  intro p hp
  rw [poly_bit _ _ hp, upAll_nth a ha _ (by omega), Gf.up_eq, Gf.co_xor]
  have e1 : Gf.co (poly a >>> 1) p = (decide (0 < p) && Gf.co (poly a) (p - 1)) := by
    rw [Gf.co, BitVec.getLsbD_ushiftRight, Gf.co]
    by_cases h0 : p = 0
    · subst h0
      rw [BitVec.getLsbD_of_ge _ _ (by omega)]; rfl
    · rw [show 1 + (127 - p) = 127 - (p - 1) by omega]; simp [show 0 < p by omega]
  have e2 : Gf.co (Gf.pick ((poly a).getLsbD 0) Gf.R) p = (Gf.co (poly a) 127 && (decide (p < 8) && (225 : UInt8).toBitVec.getLsbD (7 - p))) := by
    show _ = ((poly a).getLsbD 0 && _)
    rw [← R_bit p hp]
    cases (poly a).getLsbD 0
    · rw [Gf.pick, if_neg (by simp), Gf.co_zero, Bool.false_and]
    · rw [Gf.pick, if_pos rfl, Gf.co, Bool.true_and]
  rw [e1, e2, ← upByte_bit a p hp]
  by_cases hc : Gf.co (poly a) 127 = true
  · by_cases h8 : p / 8 = 0
    · rw [if_pos ⟨hc, h8⟩, UInt8.toBitVec_xor, BitVec.getLsbD_xor, hc, show p % 8 = p by omega]
      simp [show p < 8 by omega]
    · rw [if_neg (by rintro ⟨_, h⟩; exact h8 h), hc]
      simp [show ¬ p < 8 by omega]
  · rw [if_neg (by rintro ⟨h, _⟩; exact hc h)]
    simp [hc]
end Gcm
end Go.Proofs.Ytbcboldepghgpaa
