/-
  The reference's hash of Galois counter mode, in plain Lean, is the program's.
-/
import Derived.Test.YtbcboldepghgpaaGcmC
import Derived.Test.YtbcboldepghgpaaGcmLaw
set_option linter.unusedVariables false
set_option linter.unusedSimpArgs false
set_option maxRecDepth 100000
namespace Go.Proofs.Ytbcboldepghgpaa
open Go.RowKit
namespace Gcm
def padLen (n : Nat) : Nat := (16 - n % 16) % 16
/-- Bytes filled up with noughts to whole blocks. -/
def padded (l : List UInt8) : List UInt8 := l ++ List.replicate (padLen l.length) 0
theorem padded_len (l : List UInt8) : (padded l).length = l.length + padLen l.length := by rw [padded, List.length_append, List.length_replicate]
theorem padLen_lt (n : Nat) : padLen n < 16 := Nat.mod_lt _ (by omega)
theorem padLen_zero (n : Nat) : (n + padLen n) % 16 = 0 := by unfold padLen; omega
/-- How many bits, in eight bytes; the first k of them. -/
def lenTo (l : List UInt8) : Nat → List UInt8
  | 0 => []
  | k + 1 => lenTo l k ++ [(shr64 (bits l) (8 * (7 - k))).toUInt8]
theorem lenTo_len (l : List UInt8) : ∀ k, (lenTo l k).length = k
  | 0 => rfl
  | k + 1 => by rw [lenTo, List.length_append, lenTo_len l k]; rfl
theorem lens_bytes (a t : List UInt8) : lenTo a 8 ++ lenTo t 8 = bytes (bits a, bits t) := rfl
/-- The reference's hash over whole blocks: m of them. -/
def feedB (h : List UInt8) : Nat → List UInt8 → List UInt8 → List UInt8
  | 0, _, out => out
  | m + 1, l, out => feedB h m (l.drop 16) (mul (Aes.xor16 out (l.take 16)) h)
theorem feedB_len (h : List UInt8) : ∀ (m : Nat) (l out : List UInt8), out.length = 16 → (feedB h m l out).length = 16
  | 0, _, _, ho => ho
  | m + 1, l, out, _ => feedB_len h m _ _ (mul_len _ _)
theorem feedB_snoc (h : List UInt8) : ∀ (m : Nat) (l out : List UInt8), feedB h (m + 1) l out = mul (Aes.xor16 (feedB h m l out) ((l.drop (16 * m)).take 16)) h
  | 0, l, out => by rw [Nat.mul_zero, List.drop_zero]; rfl
  | m + 1, l, out => by
    rw [feedB, feedB_snoc h m, feedB, List.drop_drop]
    rw [show 16 + 16 * m = 16 * (m + 1) by omega]
theorem feedB_append (h : List UInt8) : ∀ (m k : Nat) (l s out : List UInt8), l.length = 16 * m → feedB h (m + k) (l ++ s) out = feedB h k s (feedB h m l out)
  | 0, k, l, s, out, hl => by
    have : l = [] := List.eq_nil_of_length_eq_zero (by omega)
    subst this
    rw [Nat.zero_add]; rfl
  | m + 1, k, l, s, out, hl => by
    rw [show m + 1 + k = (m + k) + 1 by omega, feedB, feedB, List.drop_append_of_le_length (by omega), List.take_append_of_le_length (by omega)]
    exact feedB_append h m k _ s _ (by rw [List.length_drop]; omega)
theorem of_xor (a b : List UInt8) (ha : a.length = 16) : of (Aes.xor16 a b) = xor2 (of a) (of b) :=
  bv_inj _ _ (by rw [xor2, bv_xor]; exact poly_xor a b ha)
theorem of_step (h out x : List UInt8) (ho : out.length = 16) : of (mul (Aes.xor16 out x) h) = absorb (of h) (of out) (of x) := by
  rw [mul, of_bytes, of_xor _ _ ho]; rfl
theorem padded_nil : padded [] = [] := rfl
theorem padded_take (l : List UInt8) (h : l ≠ []) : (padded l).take 16 = pad16 l := by
  have hl : 0 < l.length := List.length_pos_iff.2 h
  rw [padded, pad16, List.take_append, List.length_take]
  congr 1
  rw [List.take_replicate]
  congr 1
  unfold padLen
  by_cases h16 : 16 ≤ l.length
  · rw [Nat.min_eq_left h16]; omega
  · rw [Nat.min_eq_right (by omega)]; omega
theorem padded_drop (l : List UInt8) (h : l ≠ []) : (padded l).drop 16 = padded (l.drop 16) := by
  have hl : 0 < l.length := List.length_pos_iff.2 h
  rw [padded, padded, List.drop_append, List.drop_replicate, List.length_drop]
  congr 2
  unfold padLen
  by_cases h16 : 16 ≤ l.length
  · omega
  · omega
theorem feed_is (h : List UInt8) : ∀ (f : Nat) (l out : List UInt8), l.length ≤ f → out.length = 16 → ∀ m, (padded l).length = 16 * m → of (feedB h m (padded l) out) = feed (of h) l (of out)
  | 0, l, out, hf, ho, m, hm => by
    have : l = [] := List.eq_nil_of_length_eq_zero (by omega)
    subst this
    have : m = 0 := by rw [padded_nil] at hm; simp at hm; omega
    subst this
    rw [feed_nil]; rfl
  | f + 1, l, out, hf, ho, m, hm => by
    by_cases hn : l = []
    · subst hn
      have : m = 0 := by rw [padded_nil] at hm; simp at hm; omega
      subst this
      rw [feed_nil]; rfl
    · have hl : 0 < l.length := List.length_pos_iff.2 hn
      obtain ⟨m, rfl⟩ : ∃ k, m = k + 1 := ⟨m - 1, by rw [padded_len] at hm; omega⟩
      rw [feed_step _ _ _ hn, feedB, padded_drop l hn, padded_take l hn, feed_is h f (l.drop 16) _ (by rw [List.length_drop]; omega) (mul_len _ _) m (by rw [← padded_drop l hn, List.length_drop]; omega), of_step h out _ ho]
/-- All that the reference hashes. -/
def allOf (aside text : List UInt8) : List UInt8 := ((padded aside ++ padded text) ++ lenTo aside 8) ++ lenTo text 8
theorem allOf_len (aside text : List UInt8) : (allOf aside text).length = (padded aside).length + (padded text).length + 16 := by
  rw [allOf, List.length_append, List.length_append, List.length_append, lenTo_len, lenTo_len]
/-- The reference's hash is the program's. -/
theorem hash_is (h aside text : List UInt8) (m : Nat) (hm : (allOf aside text).length = 16 * m) : feedB h m (allOf aside text) (List.replicate 16 0) = hash h aside text := by
  have z1 := padLen_zero aside.length
  have z2 := padLen_zero text.length
  have hl := allOf_len aside text
  obtain ⟨m1, h1⟩ : ∃ k, (padded aside).length = 16 * k := ⟨(padded aside).length / 16, by rw [padded_len]; omega⟩
  obtain ⟨m2, h2⟩ : ∃ k, (padded text).length = 16 * k := ⟨(padded text).length / 16, by rw [padded_len]; omega⟩
  obtain rfl : m = m1 + (m2 + 1) := by omega
  have e : allOf aside text = padded aside ++ (padded text ++ bytes (bits aside, bits text)) := by
    rw [allOf, ← lens_bytes]; simp only [List.append_assoc]
  have l0 : (List.replicate 16 (0 : UInt8)).length = 16 := rfl
  rw [e, feedB_append h m1 _ _ _ _ h1, feedB_append h m2 _ _ _ _ h2]
  have q1 := feed_is h aside.length aside (List.replicate 16 0) (Nat.le_refl _) l0 m1 h1
  have b1 := feedB_len h m1 (padded aside) (List.replicate 16 0) l0
  have q2 := feed_is h text.length text _ (Nat.le_refl _) b1 m2 h2
  have b2 := feedB_len h m2 (padded text) _ b1
  have s := of_step h _ (bytes (bits aside, bits text)) b2
  rw [q2, q1, of_bytes] at s
  have z0 : of (List.replicate 16 (0 : UInt8)) = (0, 0) := by decide +kernel
  rw [z0] at s
  show mul (Aes.xor16 _ ((bytes (bits aside, bits text)).take 16)) h = _
  rw [List.take_of_length_le (by rw [bytes_len]; exact Nat.le_refl _)]
  rw [hash, hash2, ← s, bytes_of _ (mul_len _ _)]
end Gcm
end Go.Proofs.Ytbcboldepghgpaa
