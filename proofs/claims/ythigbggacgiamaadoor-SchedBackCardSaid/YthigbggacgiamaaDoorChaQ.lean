/-
  The plain law of chacha's stream: each byte by itself; twice the same stream takes it back.
-/
import Derived.Test.YthigbggacgiamaaDoorChaC
set_option linter.unusedVariables false
set_option linter.unusedSimpArgs false
set_option maxRecDepth 100000
namespace Go.Proofs.YthigbggacgiamaaDoor
theorem nth_set (l : List UInt8) (i j : Nat) (x : UInt8) (hi : i < l.length) : nth (l.set i x) j = if j = i then x else nth l j := by
  unfold nth
  rw [List.getD_eq_getElem?_getD, List.getD_eq_getElem?_getD, List.getElem?_set]
  by_cases h : i = j
  · subst h; simp [hi]
  · rw [if_neg h, if_neg (fun e => h e.symm)]
theorem eq_nth (l m : List UInt8) (hl : l.length = m.length) (h : ∀ i, i < l.length → nth l i = nth m i) : l = m := by
  apply List.ext_getElem hl
  intro i h1 h2
  have := h i h1
  unfold nth at this
  rw [List.getD_eq_getElem?_getD, List.getElem?_eq_getElem h1, List.getD_eq_getElem?_getD, List.getElem?_eq_getElem h2] at this
  exact this
namespace Cha
theorem xorAt_nth (s : Nat) (x out : List UInt8) (i : Nat) : ∀ k, s + k ≤ out.length → nth (iter (xorAt s x) k out) i = if s ≤ i ∧ i < s + k then nth out i ^^^ nth x (i - s) else nth out i
  | 0, _ => by rw [if_neg (by omega)]; rfl
  | k + 1, h => by
    rw [iter, xorAt, nth_set _ _ _ _ (by rw [xorAt_len]; omega)]
    by_cases e : i = s + k
    · rw [if_pos e, xorAt_nth s x out (s + k) k (by omega), if_neg (by omega), if_pos (by omega)]
      subst e
      rw [Nat.add_sub_cancel_left]
    · rw [if_neg e, xorAt_nth s x out i k (by omega)]
      by_cases e2 : s ≤ i ∧ i < s + k
      · rw [if_pos e2, if_pos (by omega)]
      · rw [if_neg e2, if_neg (by omega)]
theorem strRun_nth (key : List UInt8) (count : W) (nonce b : List UInt8) (i : Nat) (hi : i < b.length) : ∀ j, nth (strRun key count nonce b j) i = if i < 64 * j then nth b i ^^^ nth (block key (count + UInt32.ofNat (i / 64)) nonce) (i % 64) else nth b i
  | 0 => by rw [if_neg (by omega)]; unfold strRun; rfl
  | j + 1 => by
    have hl := strRun_len key count nonce b j
    rw [strRun_succ, strStep]
    by_cases hj : 64 * j < b.length
    · rw [xorAt_nth _ _ _ _ _ (by rw [hl]; omega), strRun_nth key count nonce b i hi j]
      by_cases e : i < 64 * j
      · rw [if_neg (by omega), if_pos e, if_pos (by omega)]
      · rw [if_neg e]
        by_cases e2 : i < 64 * (j + 1)
        · rw [if_pos e2, if_pos (by rw [hl]; omega), show i / 64 = j by omega, show i % 64 = i - 64 * j by omega]
        · rw [if_neg e2, if_neg (by rw [hl]; omega)]
    · rw [show min 64 ((strRun key count nonce b j).length - 64 * j) = 0 by rw [hl]; omega]
      show nth (strRun key count nonce b j) i = _
      rw [strRun_nth key count nonce b i hi j, if_pos (by omega), if_pos (by omega)]
theorem stream_nth (key : List UInt8) (count : W) (nonce b : List UInt8) (i : Nat) (hi : i < b.length) : nth (stream key count nonce b) i = nth b i ^^^ nth (block key (count + UInt32.ofNat (i / 64)) nonce) (i % 64) := by
  unfold stream
  rw [strRun_nth key count nonce b i hi, if_pos (by omega)]
theorem stream_twice (key : List UInt8) (count : W) (nonce b : List UInt8) : stream key count nonce (stream key count nonce b) = b := by
  apply eq_nth
  · rw [stream_len, stream_len]
  · intro i hi
    rw [stream_len] at hi
    rw [stream_nth _ _ _ _ _ hi, stream_nth _ _ _ _ _ (by rw [stream_len] at hi; exact hi), UInt8.xor_assoc, UInt8.xor_self, UInt8.xor_zero]
end Cha
end Go.Proofs.YthigbggacgiamaaDoor
