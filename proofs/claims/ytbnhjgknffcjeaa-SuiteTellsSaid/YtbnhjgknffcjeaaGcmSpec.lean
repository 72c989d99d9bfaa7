/-
  Galois counter mode's reckoning, as the program and as the reference do it, in plain Lean; and that both are the field's products.
-/
import Derived.Test.YtbnhjgknffcjeaaGf
import Derived.Test.YtbnhjgknffcjeaaStreamLaw
set_option linter.unusedVariables false
set_option linter.unusedSimpArgs false
namespace Go.Proofs.Ytbnhjgknffcjeaa
open Go.RowKit
namespace Gcm
/-- What the program's product carries from round to round: x, y, what is made. -/
structure T where
  xh : UInt64
  xl : UInt64
  yh : UInt64
  yl : UInt64
  oh : UInt64
  ol : UInt64
def tStep (i : Nat) (s : T) : T :=
  let bit := if i < 64 then s.yh >>> 63 else s.yl >>> 63
  { xh := s.xh >>> 1 ^^^ (-(s.xl &&& 1) &&& 16212958658533785600), xl := s.xl >>> 1 ||| s.xh <<< 63
    yh := if i < 64 then s.yh <<< 1 else s.yh, yl := if i < 64 then s.yl else s.yl <<< 1
    oh := s.oh ^^^ (s.xh &&& -bit), ol := s.ol ^^^ (s.xl &&& -bit) }
def tRun (x y : UInt64 × UInt64) (k : Nat) : T := iter tStep k ⟨x.1, x.2, y.1, y.2, 0, 0⟩
def times (x y : UInt64 × UInt64) : UInt64 × UInt64 := ((tRun x y 128).oh, (tRun x y 128).ol)
def ofStep (b : List UInt8) (i : Nat) (s : UInt64 × UInt64) : UInt64 × UInt64 := (s.1 <<< 8 ||| (nth b i).toUInt64, s.2 <<< 8 ||| (nth b (i + 8)).toUInt64)
def of (b : List UInt8) : UInt64 × UInt64 := iter (ofStep b) 8 (0, 0)
def bytesStep (x : UInt64 × UInt64) (i : Nat) (b : List UInt8) : List UInt8 := (b.set i (shr64 x.1 (56 - 8 * i)).toUInt8).set (i + 8) (shr64 x.2 (56 - 8 * i)).toUInt8
def bytes (x : UInt64 × UInt64) : List UInt8 := iter (bytesStep x) 8 (List.replicate 16 0)
theorem bytesStep_len (x : UInt64 × UInt64) (k : Nat) (b : List UInt8) : (iter (bytesStep x) k b).length = b.length := iter_keeps _ _ (fun k s => by simp [bytesStep]) k b
theorem bytes_len (x : UInt64 × UInt64) : (bytes x).length = 16 := (bytesStep_len _ _ _).trans List.length_replicate
/-- Two words as one polynomial. -/
def bv (x : UInt64 × UInt64) : Gf.B := x.1.toBitVec ++ x.2.toBitVec
theorem bv_bit (x : UInt64 × UInt64) (i : Nat) : (bv x).getLsbD i = if i < 64 then x.2.toBitVec.getLsbD i else x.1.toBitVec.getLsbD (i - 64) := by
  rw [bv, BitVec.getLsbD_append]
theorem bv_inj (x y : UInt64 × UInt64) (h : bv x = bv y) : x = y := by
  have h0 : ∀ i, (bv x).getLsbD i = (bv y).getLsbD i := fun i => by rw [h]
  have h1 : x.1.toBitVec = y.1.toBitVec := by
    apply BitVec.eq_of_getLsbD_eq
    intro i hi
    have := h0 (64 + i)
    rw [bv_bit, bv_bit, if_neg (show ¬ 64 + i < 64 by omega), if_neg (show ¬ 64 + i < 64 by omega), Nat.add_sub_cancel_left] at this
    exact this
  have h2 : x.2.toBitVec = y.2.toBitVec := by
    apply BitVec.eq_of_getLsbD_eq
    intro i hi
    have := h0 i
    rw [bv_bit, bv_bit, if_pos hi, if_pos hi] at this
    exact this
  exact Prod.ext (UInt64.eq_of_toBitVec_eq h1) (UInt64.eq_of_toBitVec_eq h2)
theorem neg_one (b : UInt64) (h : b = 0 ∨ b = 1) (x : UInt64) : x &&& -b = if b = 1 then x else 0 := by
  rcases h with rfl | rfl
  · show x &&& 0 = _; rw [UInt64.and_zero]; rfl
  · rw [if_pos rfl]; show x &&& 18446744073709551615 = x
    apply UInt64.eq_of_toBitVec_eq
    exact BitVec.and_allOnes
theorem top_bit (y : UInt64) : y >>> 63 = if y.toBitVec.getLsbD 63 then 1 else 0 := by
  apply UInt64.eq_of_toBitVec_eq
  apply BitVec.eq_of_getLsbD_eq
  intro i hi
  rw [UInt64.toBitVec_shiftRight]
  show (y.toBitVec >>> 63).getLsbD i = _
  rw [BitVec.getLsbD_ushiftRight]
  rcases Nat.eq_zero_or_pos i with rfl | h0
  · cases h : y.toBitVec.getLsbD 63 <;> simp [h]
  · rw [BitVec.getLsbD_of_ge _ _ (by omega)]
    cases h : y.toBitVec.getLsbD 63
    · simp
    · simp; omega
theorem low_bit (x : UInt64) : x &&& 1 = if x.toBitVec.getLsbD 0 then 1 else 0 := by
  apply UInt64.eq_of_toBitVec_eq
  apply BitVec.eq_of_getLsbD_eq
  intro i hi
  rw [UInt64.toBitVec_and, BitVec.getLsbD_and]
  rcases Nat.eq_zero_or_pos i with rfl | h0
  · cases h : x.toBitVec.getLsbD 0 <;> simp
  · have : (1 : UInt64).toBitVec.getLsbD i = false := by show (1#64).getLsbD i = false; simp; omega
    rw [this, Bool.and_false]
    cases h : x.toBitVec.getLsbD 0
    · simp
    · simp; omega
theorem bv_up (x : UInt64 × UInt64) : bv (x.1 >>> 1 ^^^ (-(x.2 &&& 1) &&& 16212958658533785600), x.2 >>> 1 ||| x.1 <<< 63) = Gf.up (bv x) := by
  have hm : -(x.2 &&& 1) &&& 16212958658533785600 = if x.2.toBitVec.getLsbD 0 then 16212958658533785600 else 0 := by
    rw [UInt64.and_comm, neg_one _ (by rw [low_bit]; cases x.2.toBitVec.getLsbD 0 <;> simp) _, low_bit]
    cases x.2.toBitVec.getLsbD 0 <;> simp
  rw [hm, Gf.up_eq]
  apply BitVec.eq_of_getLsbD_eq
  intro i hi
  rw [bv_bit, BitVec.getLsbD_xor, BitVec.getLsbD_ushiftRight, bv_bit, bv_bit, if_pos (show 0 < 64 by omega)]
  have hR : ∀ b : Bool, (Gf.pick b Gf.R).getLsbD i = (b && Gf.R.getLsbD i) := by intro b; cases b <;> simp [Gf.pick]
  rw [hR]
  by_cases h : i < 64
  · rw [if_pos h]
    have hr : Gf.R.getLsbD i = false := by
      have : ∀ j : Fin 64, Gf.R.getLsbD j.val = false := by decide +kernel
      exact this ⟨i, h⟩
    rw [hr, Bool.and_false, Bool.xor_false, UInt64.toBitVec_or, BitVec.getLsbD_or, UInt64.toBitVec_shiftRight, UInt64.toBitVec_shiftLeft]
    show ((x.2.toBitVec >>> 1).getLsbD i || (x.1.toBitVec <<< 63).getLsbD i) = _
    rw [BitVec.getLsbD_ushiftRight, BitVec.getLsbD_shiftLeft]
    by_cases h63 : i = 63
    · subst h63; simp
    · rw [if_pos (show 1 + i < 64 by omega)]; simp [h, show i < 63 by omega]
  · rw [if_neg h, if_neg (show ¬ 1 + i < 64 by omega), UInt64.toBitVec_xor, BitVec.getLsbD_xor, UInt64.toBitVec_shiftRight]
    show ((x.1.toBitVec >>> 1).getLsbD (i - 64) ^^ _) = _
    rw [BitVec.getLsbD_ushiftRight, show 1 + (i - 64) = 1 + i - 64 by omega]
    congr 1
    have hc : ∀ j : Fin 64, (16212958658533785600 : UInt64).toBitVec.getLsbD j.val = Gf.R.getLsbD (64 + j.val) := by decide +kernel
    have hi2 := hc ⟨i - 64, by omega⟩
    simp only at hi2
    rw [show 64 + (i - 64) = i by omega] at hi2
    cases x.2.toBitVec.getLsbD 0
    · simp
    · rw [if_pos rfl, hi2, Bool.true_and]
theorem bv_xor (x y : UInt64 × UInt64) : bv (x.1 ^^^ y.1, x.2 ^^^ y.2) = bv x ^^^ bv y := by
  apply BitVec.eq_of_getLsbD_eq
  intro i hi
  rw [bv_bit, BitVec.getLsbD_xor, bv_bit, bv_bit]
  by_cases h : i < 64
  · rw [if_pos h, if_pos h, if_pos h, UInt64.toBitVec_xor, BitVec.getLsbD_xor]
  · rw [if_neg h, if_neg h, if_neg h, UInt64.toBitVec_xor, BitVec.getLsbD_xor]
theorem bv_zero : bv (0, 0) = 0#128 := rfl
theorem bv_pick (b : UInt64) (c : Bool) (h : b = if c then 1 else 0) (x : UInt64 × UInt64) : bv (x.1 &&& -b, x.2 &&& -b) = Gf.pick c (bv x) := by
  have hb : b = 0 ∨ b = 1 := by rw [h]; cases c <;> simp
  rw [neg_one b hb, neg_one b hb, h]
  cases c
  · show bv (if (0 : UInt64) = 1 then x.1 else 0, if (0 : UInt64) = 1 then x.2 else 0) = 0#128
    rw [if_neg (by decide), if_neg (by decide)]; rfl
  · show bv (if (1 : UInt64) = 1 then x.1 else 0, if (1 : UInt64) = 1 then x.2 else 0) = bv x
    rw [if_pos rfl, if_pos rfl]
/-- What the product's rounds have made. -/
theorem tRun_is (x y : UInt64 × UInt64) : ∀ k, k ≤ 128 → bv ((tRun x y k).xh, (tRun x y k).xl) = Gf.upN k (bv x) ∧ bv ((tRun x y k).oh, (tRun x y k).ol) = Gf.mulTo k (bv x) (bv y) ∧
    (∀ i, k ≤ i → i < 64 → (tRun x y k).yh.toBitVec.getLsbD (63 - (i - k)) = y.1.toBitVec.getLsbD (63 - i)) ∧ (∀ i, 64 ≤ i → i < 128 → k ≤ i → (tRun x y k).yl.toBitVec.getLsbD (63 - (i - max k 64)) = y.2.toBitVec.getLsbD (127 - i))
  | 0, _ => ⟨rfl, bv_zero, fun i _ h => rfl, fun i h1 h2 _ => by show y.2.toBitVec.getLsbD _ = _; congr 1; omega⟩
  | k + 1, hk => by
    obtain ⟨h1, h2, h3, h4⟩ := tRun_is x y k (by omega)
    have e : tRun x y (k + 1) = tStep k (tRun x y k) := rfl
    rw [e]
    generalize tRun x y k = s at h1 h2 h3 h4
    have hbit : (if k < 64 then s.yh >>> 63 else s.yl >>> 63) = if Gf.co (bv y) k then 1 else 0 := by
      rw [Gf.co, bv_bit]
      by_cases h : k < 64
      · have := h3 k (Nat.le_refl _) h
        rw [Nat.sub_self] at this
        rw [if_pos h, if_neg (show ¬ 127 - k < 64 by omega), top_bit, this, show 127 - k - 64 = 63 - k by omega]
      · have := h4 k (by omega) (by omega) (Nat.le_refl _)
        rw [show k - max k 64 = 0 by omega] at this
        rw [if_neg h, if_pos (show 127 - k < 64 by omega), top_bit, this]
    refine ⟨?_, ?_, ?_, ?_⟩
    · have := bv_up (s.xh, s.xl)
      rw [h1] at this
      exact this
    · show bv (s.oh ^^^ (s.xh &&& -(if k < 64 then s.yh >>> 63 else s.yl >>> 63)), s.ol ^^^ (s.xl &&& -(if k < 64 then s.yh >>> 63 else s.yl >>> 63))) = _
      have := bv_xor (s.oh, s.ol) (s.xh &&& -(if k < 64 then s.yh >>> 63 else s.yl >>> 63), s.xl &&& -(if k < 64 then s.yh >>> 63 else s.yl >>> 63))
      rw [this, h2, bv_pick _ _ hbit (s.xh, s.xl), h1]
      rfl
    · intro i hi h
      show (if k < 64 then s.yh <<< 1 else s.yh).toBitVec.getLsbD _ = _
      rw [if_pos (show k < 64 by omega), UInt64.toBitVec_shiftLeft]
      show (s.yh.toBitVec <<< 1).getLsbD _ = _
      rw [BitVec.getLsbD_shiftLeft, ← h3 i (by omega) h]
      simp [show 63 - (i - (k + 1)) < 64 by omega, show ¬ 63 - (i - (k + 1)) < 1 by omega]
      congr 1; omega
    · intro i hi h h5
      show (if k < 64 then s.yl else s.yl <<< 1).toBitVec.getLsbD _ = _
      by_cases hk64 : k < 64
      · rw [if_pos hk64, ← h4 i hi h (by omega), show max (k + 1) 64 = max k 64 by omega]
      · rw [if_neg hk64, UInt64.toBitVec_shiftLeft]
        show (s.yl.toBitVec <<< 1).getLsbD _ = _
        rw [BitVec.getLsbD_shiftLeft, ← h4 i hi h (by omega)]
        simp [show 63 - (i - max (k + 1) 64) < 64 by omega, show ¬ 63 - (i - max (k + 1) 64) < 1 by omega]
        congr 1; omega
/-- The program's product is the field's. -/
theorem times_is (x y : UInt64 × UInt64) : bv (times x y) = Gf.mul (bv x) (bv y) := (tRun_is x y 128 (Nat.le_refl _)).2.1
-- bytes and words
theorem of_bits (b : List UInt8) : ∀ k, k ≤ 8 → (∀ j, (iter (ofStep b) k (0, 0)).1.toBitVec.getLsbD j = (decide (j < 8 * k) && (nth b (k - 1 - j / 8)).toBitVec.getLsbD (j % 8))) ∧
    (∀ j, (iter (ofStep b) k (0, 0)).2.toBitVec.getLsbD j = (decide (j < 8 * k) && (nth b (k + 7 - j / 8)).toBitVec.getLsbD (j % 8)))
  | 0, _ => ⟨fun j => by show (0#64).getLsbD j = _; simp, fun j => by show (0#64).getLsbD j = _; simp⟩
  | k + 1, hk => by
    obtain ⟨h1, h2⟩ := of_bits b k (by omega)
    have step : ∀ (s : UInt64) (x : UInt8) (j : Nat), (s <<< 8 ||| x.toUInt64).toBitVec.getLsbD j = ((decide (j < 64) && (!decide (j < 8) && s.toBitVec.getLsbD (j - 8))) || x.toBitVec.getLsbD j) := by
      intro s x j
      rw [UInt64.toBitVec_or, BitVec.getLsbD_or, UInt64.toBitVec_shiftLeft]
      show ((s.toBitVec <<< 8).getLsbD j || (x.toUInt64.toBitVec).getLsbD j) = _
      rw [BitVec.getLsbD_shiftLeft]
      rw [Bool.and_assoc]
      have e : x.toUInt64.toBitVec.getLsbD j = x.toBitVec.getLsbD j := by
        show (x.toBitVec.setWidth 64).getLsbD j = _
        rw [BitVec.getLsbD_setWidth]
        by_cases hj : j < 64
        · simp [hj]
        · rw [BitVec.getLsbD_of_ge x.toBitVec j (by omega)]; simp
      rw [e]
    refine ⟨fun j => ?_, fun j => ?_⟩
    · rw [iter, ofStep]
      dsimp only
      rw [step, h1]
      by_cases h8 : j < 8
      · rw [show j / 8 = 0 by omega, show j % 8 = j by omega]
        simp [h8, show j < 8 * (k + 1) by omega]
      · rw [BitVec.getLsbD_of_ge (nth b k).toBitVec j (by omega), show (j - 8) / 8 = j / 8 - 1 by omega, show (j - 8) % 8 = j % 8 by omega, show k - 1 - (j / 8 - 1) = k + 1 - 1 - j / 8 by omega]
        by_cases hj : j < 8 * (k + 1)
        · simp [h8, hj, show j < 64 by omega, show j - 8 < 8 * k by omega]
        · simp [h8, hj, show ¬ j - 8 < 8 * k by omega]
    · rw [iter, ofStep]
      dsimp only
      rw [step, h2]
      by_cases h8 : j < 8
      · rw [show j / 8 = 0 by omega, show j % 8 = j by omega]
        simp [h8, show j < 8 * (k + 1) by omega, show k + 1 + 7 = k + 8 by omega]
      · rw [BitVec.getLsbD_of_ge (nth b (k + 8)).toBitVec j (by omega), show (j - 8) / 8 = j / 8 - 1 by omega, show (j - 8) % 8 = j % 8 by omega, show k + 7 - (j / 8 - 1) = k + 1 + 7 - j / 8 by omega]
        by_cases hj : j < 8 * (k + 1)
        · simp [h8, hj, show j < 64 by omega, show j - 8 < 8 * k by omega]
        · simp [h8, hj, show ¬ j - 8 < 8 * k by omega]
/-- The polynomial of sixteen bytes. -/
def poly (b : List UInt8) : Gf.B := bv (of b)
/-- The coefficient of x^p is a bit of byte p / 8. -/
theorem poly_bit (b : List UInt8) (p : Nat) (hp : p < 128) : Gf.co (poly b) p = (nth b (p / 8)).toBitVec.getLsbD (7 - p % 8) := by
  obtain ⟨h1, h2⟩ := of_bits b 8 (Nat.le_refl _)
  rw [Gf.co, poly, bv_bit, of, h1, h2]
  by_cases h : 127 - p < 64
  · rw [if_pos h, show (8 + 7 - (127 - p) / 8) = p / 8 by omega, show (127 - p) % 8 = 7 - p % 8 by omega]
    simp [show 127 - p < 8 * 8 by omega]
  · rw [if_neg h, show (8 - 1 - (127 - p - 64) / 8) = p / 8 by omega, show (127 - p - 64) % 8 = 7 - p % 8 by omega]
    simp [show 127 - p - 64 < 8 * 8 by omega]
theorem poly_ext (x y : Gf.B) (h : ∀ p, p < 128 → Gf.co x p = Gf.co y p) : x = y := by
  apply BitVec.eq_of_getLsbD_eq
  intro i hi
  have := h (127 - i) (by omega)
  rw [Gf.co, Gf.co, show 127 - (127 - i) = i by omega] at this
  exact this
theorem byte_ext (x y : UInt8) (h : ∀ t, t < 8 → x.toBitVec.getLsbD t = y.toBitVec.getLsbD t) : x = y := by
  apply UInt8.eq_of_toBitVec_eq
  apply BitVec.eq_of_getLsbD_eq
  intro i hi
  exact h i hi
theorem poly_inj (a b : List UInt8) (ha : a.length = 16) (hb : b.length = 16) (h : poly a = poly b) : a = b := by
  apply Aes.nth_ext
  · rw [ha, hb]
  intro i hi
  rw [ha] at hi
  apply byte_ext
  intro t ht
  have h1 := poly_bit a (8 * i + (7 - t)) (by omega)
  have h2 := poly_bit b (8 * i + (7 - t)) (by omega)
  rw [show (8 * i + (7 - t)) / 8 = i by omega, show 7 - (8 * i + (7 - t)) % 8 = t by omega] at h1 h2
  rw [← h1, ← h2, h]
theorem shr64_byte (x : UInt64) (n t : Nat) (hn : n ≤ 56) (ht : t < 8) : (shr64 x n).toUInt8.toBitVec.getLsbD t = x.toBitVec.getLsbD (n + t) := by
  show ((shr64 x n).toBitVec.setWidth 8).getLsbD t = _
  rw [BitVec.getLsbD_setWidth]
  have e : (shr64 x n).toBitVec = x.toBitVec >>> n := by
    apply BitVec.eq_of_toNat_eq
    rw [BitVec.toNat_ushiftRight]
    show (UInt64.ofNat (x.toNat / 2 ^ min n 64)).toNat = x.toBitVec.toNat >>> n
    rw [Nat.min_eq_left (by omega), Nat.shiftRight_eq_div_pow]
    show (x.toNat / 2 ^ n) % 2 ^ 64 = x.toNat / 2 ^ n
    exact Nat.mod_eq_of_lt (Nat.lt_of_le_of_lt (Nat.div_le_self _ _) x.toNat_lt)
  rw [e, BitVec.getLsbD_ushiftRight]
  simp [ht]
theorem bytes_nth (x : UInt64 × UInt64) : ∀ k, k ≤ 8 → ∀ i, nth (iter (bytesStep x) k (List.replicate 16 0)) i = if i < k then (shr64 x.1 (56 - 8 * i)).toUInt8 else if 8 ≤ i ∧ i < 8 + k then (shr64 x.2 (56 - 8 * (i - 8))).toUInt8 else 0
  | 0, _, i => by
    rw [iter, if_neg (by omega), if_neg (by omega)]
    unfold nth
    rw [List.getD_eq_getElem?_getD, List.getElem?_replicate]
    split <;> rfl
  | k + 1, hk, i => by
    have hl : (iter (bytesStep x) k (List.replicate 16 0)).length = 16 := (bytesStep_len _ _ _).trans List.length_replicate
    rw [iter, bytesStep, Aes.nth_set _ _ _ _ (by rw [List.length_set, hl]; omega), Aes.nth_set _ _ _ _ (by rw [hl]; omega), bytes_nth x k (by omega) i]
    by_cases h1 : i = k + 8
    · subst h1; rw [if_pos rfl, if_neg (by omega), if_pos (by omega), show k + 8 - 8 = k by omega]
    · rw [if_neg h1]
      by_cases h2 : i = k
      · subst h2; rw [if_pos rfl, if_pos (by omega)]
      · rw [if_neg h2]
        by_cases h3 : i < k
        · rw [if_pos h3, if_pos (by omega)]
        · rw [if_neg h3, if_neg (show ¬ i < k + 1 by omega)]
          by_cases h4 : 8 ≤ i ∧ i < 8 + k
          · rw [if_pos h4, if_pos (by omega)]
          · rw [if_neg h4, if_neg (by omega)]
/-- Words that were bytes are those words. -/
theorem poly_bytes (x : UInt64 × UInt64) : poly (bytes x) = bv x := by
  apply poly_ext
  intro p hp
  rw [poly_bit _ _ hp, bytes, bytes_nth x 8 (Nat.le_refl _), Gf.co, bv_bit]
  by_cases h : p / 8 < 8
  · rw [if_pos h, if_neg (show ¬ 127 - p < 64 by omega), shr64_byte _ _ _ (by omega) (by omega), show 56 - 8 * (p / 8) + (7 - p % 8) = 127 - p - 64 by omega]
  · rw [if_neg h, if_pos (by omega), if_pos (show 127 - p < 64 by omega), shr64_byte _ _ _ (by omega) (by omega), show 56 - 8 * (p / 8 - 8) + (7 - p % 8) = 127 - p by omega]
theorem bytes_of (b : List UInt8) (h : b.length = 16) : bytes (of b) = b := poly_inj _ _ (bytes_len _) h (poly_bytes _)
theorem of_bytes (x : UInt64 × UInt64) : of (bytes x) = x := bv_inj _ _ (poly_bytes x)
/-- The product of two blocks. -/
def mul (a b : List UInt8) : List UInt8 := bytes (times (of a) (of b))
theorem mul_len (a b : List UInt8) : (mul a b).length = 16 := bytes_len _
theorem poly_mul (a b : List UInt8) : poly (mul a b) = Gf.mul (poly a) (poly b) := by rw [mul, poly_bytes, times_is]; rfl
end Gcm
end Go.Proofs.Ytbnhjgknffcjeaa
