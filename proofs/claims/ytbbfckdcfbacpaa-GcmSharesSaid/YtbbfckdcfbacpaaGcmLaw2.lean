/-
  What the statement GcmShares says of hashes, in plain Lean.
-/
import Derived.Test.YtbbfckdcfbacpaaGcmC
import Derived.Test.YtbbfckdcfbacpaaGcmLaw
set_option linter.unusedVariables false
set_option linter.unusedSimpArgs false
namespace Go.Proofs.Ytbbfckdcfbacpaa
open Go.RowKit
namespace Gcm
theorem pad16_nth (l : List UInt8) (i : Nat) (h : i < 16) : nth (pad16 l) i = nth l i := by
  rw [pad16, Aes.nth_append, List.length_take]
  by_cases h1 : i < min 16 l.length
  · rw [if_pos h1, Aes.nth_take _ _ _ h]
  · rw [if_neg h1]
    have e : nth l i = 0 := by unfold nth; rw [List.getD_eq_getElem?_getD, List.getElem?_eq_none (by omega)]; rfl
    rw [e]
    unfold nth
    rw [List.getD_eq_getElem?_getD, List.getElem?_replicate]
    split <;> rfl
theorem bv_absorb (K s x : UInt64 × UInt64) : bv (absorb K s x) = Gf.mul (bv s ^^^ bv x) (bv K) := by
  rw [absorb, times_is, xor2, bv_xor]
theorem absorb_share (K s t u v x y p q : UInt64 × UInt64) (h1 : bv s ^^^ bv t = bv u ^^^ bv v) (h2 : bv x ^^^ bv y = bv p ^^^ bv q) :
    bv (absorb K s x) ^^^ bv (absorb K t y) = bv (absorb K u p) ^^^ bv (absorb K v q) := by
  rw [bv_absorb, bv_absorb, bv_absorb, bv_absorb, ← Gf.mul_xor_left, ← Gf.mul_xor_left, Gf.xor4, h1, h2, Gf.xor4]
theorem poly_share (A B X Z : List UInt8) (h : ∀ i, nth A i ^^^ nth B i = nth X i ^^^ nth Z i) : poly (pad16 A) ^^^ poly (pad16 B) = poly (pad16 X) ^^^ poly (pad16 Z) := by
  apply poly_ext
  intro p hp
  rw [Gf.co_xor, Gf.co_xor, poly_bit _ _ hp, poly_bit _ _ hp, poly_bit _ _ hp, poly_bit _ _ hp, pad16_nth _ _ (by omega), pad16_nth _ _ (by omega), pad16_nth _ _ (by omega), pad16_nth _ _ (by omega), ← BitVec.getLsbD_xor, ← BitVec.getLsbD_xor, ← UInt8.toBitVec_xor, ← UInt8.toBitVec_xor, h]
theorem feed_none (K : UInt64 × UInt64) (A B X Z : List UInt8) (s t u v : UInt64 × UInt64) (h0 : A.length = 0) (hB : B.length = A.length) (hX : X.length = A.length) (hZ : Z.length = A.length) (hs : bv s ^^^ bv t = bv u ^^^ bv v) :
    bv (feed K A s) ^^^ bv (feed K B t) = bv (feed K X u) ^^^ bv (feed K Z v) := by
  have eA := List.eq_nil_of_length_eq_zero h0
  have eB := List.eq_nil_of_length_eq_zero (show B.length = 0 by omega)
  have eX := List.eq_nil_of_length_eq_zero (show X.length = 0 by omega)
  have eZ := List.eq_nil_of_length_eq_zero (show Z.length = 0 by omega)
  rw [eA, eB, eX, eZ, feed_nil, feed_nil, feed_nil, feed_nil, hs]
theorem feed_share (K : UInt64 × UInt64) (n : Nat) : ∀ (A B X Z : List UInt8) (s t u v : UInt64 × UInt64), A.length ≤ n → B.length = A.length → X.length = A.length → Z.length = A.length → (∀ i, nth A i ^^^ nth B i = nth X i ^^^ nth Z i) → bv s ^^^ bv t = bv u ^^^ bv v →
    bv (feed K A s) ^^^ bv (feed K B t) = bv (feed K X u) ^^^ bv (feed K Z v) := by
  induction n with
  | zero => intro A B X Z s t u v hn hB hX hZ _ hs; exact feed_none K A B X Z s t u v (by omega) hB hX hZ hs
  | succ n ih =>
    intro A B X Z s t u v hn hB hX hZ h hs
    by_cases h0 : A.length = 0
    · exact feed_none K A B X Z s t u v h0 hB hX hZ hs
    · have ne : ∀ l : List UInt8, l.length = A.length → l ≠ [] := fun l hl e => by rw [e] at hl; simp at hl; omega
      rw [feed_step K A s (ne A rfl), feed_step K B t (ne B hB), feed_step K X u (ne X hX), feed_step K Z v (ne Z hZ)]
      refine ih _ _ _ _ _ _ _ _ (by rw [List.length_drop]; omega) (by rw [List.length_drop, List.length_drop, hB]) (by rw [List.length_drop, List.length_drop, hX]) (by rw [List.length_drop, List.length_drop, hZ]) (fun i => by rw [Aes.nth_drop, Aes.nth_drop, Aes.nth_drop, Aes.nth_drop, h]) ?_
      exact absorb_share K s t u v _ _ _ _ hs (poly_share A B X Z h)
theorem poly_hash (h aside text : List UInt8) : poly (hash h aside text) = bv (hash2 (of h) aside text) := by rw [hash, poly_bytes]
theorem bits_len (a b : List UInt8) (h : a.length = b.length) : bits a = bits b := by rw [bits, bits, h]
/-- Hashes of texts of one length share out over XOR. -/
theorem hash_share (h aside A B X Z : List UInt8) (hB : B.length = A.length) (hX : X.length = A.length) (hZ : Z.length = A.length) (hn : ∀ i, nth A i ^^^ nth B i = nth X i ^^^ nth Z i) :
    Aes.xor16 (hash h aside A) (hash h aside B) = Aes.xor16 (hash h aside X) (hash h aside Z) := by
  apply poly_inj
  · rw [Aes.xor16_len, hash_len]
  · rw [Aes.xor16_len, hash_len]
  rw [poly_xor _ _ (hash_len _ _ _), poly_xor _ _ (hash_len _ _ _), poly_hash, poly_hash, poly_hash, poly_hash]
  unfold hash2
  rw [bits_len B A hB, bits_len X A hX, bits_len Z A hZ]
  exact absorb_share _ _ _ _ _ _ _ _ _ (feed_share _ A.length A B X Z _ _ _ _ (Nat.le_refl _) hB hX hZ hn rfl) rfl
theorem hash_zero (aside a : List UInt8) : hash zeros aside a = zeros := by
  apply poly_inj _ _ (hash_len _ _ _) zeros_len
  rw [poly_hash, poly_zeros]
  unfold hash2
  rw [bv_absorb, show bv (of zeros) = 0#128 from poly_zeros, Gf.mul_zero_right]
end Gcm
end Go.Proofs.Ytbbfckdcfbacpaa
