/-
  The plain law of poly's numbers: what plus and times reckon.
-/
import Derived.Test.YtbcboldepghgpaaChaH
set_option linter.unusedVariables false
set_option linter.unusedSimpArgs false
set_option maxRecDepth 100000
namespace Go.Proofs.Ytbcboldepghgpaa
namespace Cha
def P3.val (p : P3) : Nat := p.a.toNat + 18446744073709551616 * p.b.toNat + 340282366920938463463374607431768211456 * p.c.toNat
def P4.val (t : P4) : Nat := t.a.toNat + 18446744073709551616 * t.b.toNat + 340282366920938463463374607431768211456 * t.c.toNat + 6277101735386680763835789423207666416102355444464034512896 * t.d.toNat
theorem P3.plus_val (p : P3) (lo hi top : UInt64) (h : p.c.toNat + top.toNat + 1 < 18446744073709551616) : (p.plus lo hi top).val = p.val + lo.toNat + 18446744073709551616 * hi.toNat + 340282366920938463463374607431768211456 * top.toNat := by
  obtain ⟨a, b, c⟩ := p
  have e1 := carry_nat a lo 0 (by decide)
  have l1 := carry_le a lo 0 (by decide)
  have e2 := carry_nat b hi _ l1
  have l2 := carry_le b hi _ l1
  unfold P3.plus P3.val
  simp only [UInt64.toNat_add] at *
  have z : (0 : UInt64).toNat = 0 := rfl
  have h1 := a.toNat_lt
  have h2 := b.toNat_lt
  have h3 := c.toNat_lt
  have h4 := lo.toNat_lt
  have h5 := hi.toNat_lt
  have h6 := top.toNat_lt
  generalize carry a lo 0 = c1 at *
  generalize carry b hi c1 = c2 at *
  omega
theorem mul_parts (x y : UInt64) : x.toNat * y.toNat = (x * y).toNat + 18446744073709551616 * (mulHi x y).toNat := by
  rw [mulHi_nat, UInt64.toNat_mul]
  omega
theorem P4.add0_val (t : P4) (x y : UInt64) (h : t.val + x.toNat * y.toNat < 115792089237316195423570985008687907853269984665640564039457584007913129639936) : (t.add0 x y).val = t.val + x.toNat * y.toNat := by
  obtain ⟨a, b, c, d⟩ := t
  rw [mul_parts] at h ⊢
  unfold P4.add0 P4.val at *
  generalize x * y = lo at *
  generalize mulHi x y = hi at *
  have e1 := carry_nat a lo 0 (by decide)
  have l1 := carry_le a lo 0 (by decide)
  have e2 := carry_nat b hi _ l1
  have l2 := carry_le b hi _ l1
  have e3 := carry_nat c 0 _ l2
  have l3 := carry_le c 0 _ l2
  simp only [UInt64.toNat_add] at *
  have z : (0 : UInt64).toNat = 0 := rfl
  have h1 := a.toNat_lt
  have h2 := b.toNat_lt
  have h3 := c.toNat_lt
  have h4 := lo.toNat_lt
  have h5 := hi.toNat_lt
  have h6 := d.toNat_lt
  generalize carry a lo 0 = c1 at *
  generalize carry b hi c1 = c2 at *
  generalize carry c 0 c2 = c3 at *
  omega
theorem P4.add1_val (t : P4) (x y : UInt64) (h : t.val + 18446744073709551616 * (x.toNat * y.toNat) < 115792089237316195423570985008687907853269984665640564039457584007913129639936) : (t.add1 x y).val = t.val + 18446744073709551616 * (x.toNat * y.toNat) := by
  obtain ⟨a, b, c, d⟩ := t
  rw [mul_parts] at h ⊢
  unfold P4.add1 P4.val at *
  generalize x * y = lo at *
  generalize mulHi x y = hi at *
  have e1 := carry_nat b lo 0 (by decide)
  have l1 := carry_le b lo 0 (by decide)
  have e2 := carry_nat c hi _ l1
  have l2 := carry_le c hi _ l1
  simp only [UInt64.toNat_add] at *
  have z : (0 : UInt64).toNat = 0 := rfl
  have h1 := a.toNat_lt
  have h2 := b.toNat_lt
  have h3 := c.toNat_lt
  have h4 := lo.toNat_lt
  have h5 := hi.toNat_lt
  have h6 := d.toNat_lt
  generalize carry b lo 0 = c1 at *
  generalize carry c hi c1 = c2 at *
  omega
theorem P4.add2_val (t : P4) (x y : UInt64) (h : t.val + 340282366920938463463374607431768211456 * (x.toNat * y.toNat) < 115792089237316195423570985008687907853269984665640564039457584007913129639936) : (t.add2 x y).val = t.val + 340282366920938463463374607431768211456 * (x.toNat * y.toNat) := by
  obtain ⟨a, b, c, d⟩ := t
  rw [mul_parts] at h ⊢
  unfold P4.add2 P4.val at *
  generalize x * y = lo at *
  generalize mulHi x y = hi at *
  have e1 := carry_nat c lo 0 (by decide)
  have l1 := carry_le c lo 0 (by decide)
  simp only [UInt64.toNat_add] at *
  have z : (0 : UInt64).toNat = 0 := rfl
  have h1 := a.toNat_lt
  have h2 := b.toNat_lt
  have h3 := c.toNat_lt
  have h4 := lo.toNat_lt
  have h5 := hi.toNat_lt
  have h6 := d.toNat_lt
  generalize carry c lo 0 = c1 at *
  omega
theorem P4.more_val (t : P4) (x : UInt64) (h : t.val + 6277101735386680763835789423207666416102355444464034512896 * x.toNat < 115792089237316195423570985008687907853269984665640564039457584007913129639936) : (t.more x).val = t.val + 6277101735386680763835789423207666416102355444464034512896 * x.toNat := by
  obtain ⟨a, b, c, d⟩ := t
  unfold P4.more P4.val at *
  simp only [UInt64.toNat_add] at *
  omega
theorem prod_split (A B C R S : Nat) : A * R + 18446744073709551616 * (A * S) + 18446744073709551616 * (B * R) + 340282366920938463463374607431768211456 * (B * S) + 340282366920938463463374607431768211456 * (C * R) + 6277101735386680763835789423207666416102355444464034512896 * (C * S) = (A + 18446744073709551616 * B + 340282366920938463463374607431768211456 * C) * (R + 18446744073709551616 * S) := by
  grind
theorem P3.prod_val (p : P3) (r s : UInt64) (hc : p.c.toNat ≤ 7) (hr : r.toNat < 1152921504606846976) (hs : s.toNat < 1152921504606846976) : (p.prod r s).val = p.val * (r.toNat + 18446744073709551616 * s.toNat) := by
  obtain ⟨a, b, c⟩ := p
  have h1 : a.toNat * r.toNat ≤ 18446744073709551616 * 1152921504606846976 := Nat.mul_le_mul (Nat.le_of_lt a.toNat_lt) (Nat.le_of_lt hr)
  have h2 : a.toNat * s.toNat ≤ 18446744073709551616 * 1152921504606846976 := Nat.mul_le_mul (Nat.le_of_lt a.toNat_lt) (Nat.le_of_lt hs)
  have h3 : b.toNat * r.toNat ≤ 18446744073709551616 * 1152921504606846976 := Nat.mul_le_mul (Nat.le_of_lt b.toNat_lt) (Nat.le_of_lt hr)
  have h4 : b.toNat * s.toNat ≤ 18446744073709551616 * 1152921504606846976 := Nat.mul_le_mul (Nat.le_of_lt b.toNat_lt) (Nat.le_of_lt hs)
  have h5 : c.toNat * r.toNat ≤ 7 * 1152921504606846976 := Nat.mul_le_mul hc (Nat.le_of_lt hr)
  have h6 : c.toNat * s.toNat ≤ 7 * 1152921504606846976 := Nat.mul_le_mul hc (Nat.le_of_lt hs)
  have e6 : (c * s).toNat = c.toNat * s.toNat := by rw [UInt64.toNat_mul]; exact Nat.mod_eq_of_lt (by omega)
  have hz : (P4.val ⟨0, 0, 0, 0⟩) = 0 := by decide
  have k := prod_split a.toNat b.toNat c.toNat r.toNat s.toNat
  have v1 := P4.add0_val ⟨0, 0, 0, 0⟩ a r (by rw [hz]; omega)
  rw [hz] at v1
  have v2 := P4.add1_val _ a s (show ((⟨0, 0, 0, 0⟩ : P4).add0 a r).val + _ < _ by rw [v1]; omega)
  rw [v1] at v2
  have v3 := P4.add1_val _ b r (show (((⟨0, 0, 0, 0⟩ : P4).add0 a r).add1 a s).val + _ < _ by rw [v2]; omega)
  rw [v2] at v3
  have v4 := P4.add2_val _ b s (show ((((⟨0, 0, 0, 0⟩ : P4).add0 a r).add1 a s).add1 b r).val + _ < _ by rw [v3]; omega)
  rw [v3] at v4
  have v5 := P4.add2_val _ c r (show (((((⟨0, 0, 0, 0⟩ : P4).add0 a r).add1 a s).add1 b r).add2 b s).val + _ < _ by rw [v4]; omega)
  rw [v4] at v5
  have v6 := P4.more_val _ (c * s) (show ((((((⟨0, 0, 0, 0⟩ : P4).add0 a r).add1 a s).add1 b r).add2 b s).add2 c r).val + _ < _ by rw [v5, e6]; omega)
  rw [v5, e6] at v6
  unfold P3.prod P3.val
  simp only []
  rw [v6, ← k]
  omega
theorem and3_nat (c : UInt64) : (c &&& 3).toNat = c.toNat % 4 := by
  rw [UInt64.toNat_and]
  exact Nat.and_two_pow_sub_one_eq_mod c.toNat 2
theorem low2 : ∀ j : Fin 64, 2 ≤ j.val → (18446744073709551612#64).getLsbD j.val = true := by decide
theorem not3_nat (c : UInt64) : (c &&& (~~~3 : UInt64)).toNat = 4 * (c.toNat / 4) := by
  have h : c &&& (~~~3 : UInt64) = (c >>> 2) <<< 2 := by
    apply UInt64.toBitVec_inj.1
    ext i hi
    rcases i with _ | _ | i
    · simp
    · simp
    · simp
      have k1 := low2 ⟨i + 1 + 1, hi⟩ (by simp only []; omega)
      rw [BitVec.getLsbD_eq_getElem hi] at k1
      rw [k1, Bool.and_true, show 2 + i = i + 1 + 1 by omega, BitVec.getLsbD_eq_getElem hi, show decide (i + 1 + 1 < 2) = false by rw [decide_eq_false_iff_not]; omega]
      rfl
  rw [h, UInt64.toNat_shiftLeft, UInt64.toNat_shiftRight]
  have := c.toNat_lt
  simp only [show (2 : UInt64).toNat % 64 = 2 from rfl, Nat.shiftLeft_eq, Nat.shiftRight_eq_div_pow]
  omega
theorem top_nat (lo hi : UInt64) (h : lo.toNat % 4 = 0) : (lo >>> 2 ||| hi <<< 62).toNat = lo.toNat / 4 + 4611686018427387904 * (hi.toNat % 4) := by
  rw [UInt64.toNat_or, UInt64.toNat_shiftLeft, UInt64.toNat_shiftRight]
  have h1 := lo.toNat_lt
  have h2 := hi.toNat_lt
  simp only [show (2 : UInt64).toNat % 64 = 2 from rfl, show (62 : UInt64).toNat % 64 = 62 from rfl, Nat.shiftLeft_eq, Nat.shiftRight_eq_div_pow]
  rw [show hi.toNat * 2 ^ 62 % 2 ^ 64 = 2 ^ 62 * (hi.toNat % 4) by omega, Nat.or_comm, ← Nat.two_pow_add_eq_or_of_lt (by omega)]
  omega
theorem P3.times_val (p : P3) (r s : UInt64) (hc : p.c.toNat ≤ 7) (hr : r.toNat < 1152921504606846976) (hs : s.toNat < 1152921504606846976) :
    (p.times r s).val = p.val * (r.toNat + 18446744073709551616 * s.toNat) % 1361129467683753853853498429727072845824 + 5 * (p.val * (r.toNat + 18446744073709551616 * s.toNat) / 1361129467683753853853498429727072845824) := by
  have hv := P3.prod_val p r s hc hr hs
  rw [← hv]
  unfold P3.times
  generalize p.prod r s = t
  obtain ⟨a, b, c, d⟩ := t
  simp only []
  have n1 := not3_nat c
  have n2 := and3_nat c
  have n3 := top_nat (c &&& (~~~3 : UInt64)) d (by rw [n1]; omega)
  have n4 : (d >>> 2).toNat = d.toNat / 4 := by
    rw [UInt64.toNat_shiftRight]
    simp only [show (2 : UInt64).toNat % 64 = 2 from rfl, Nat.shiftRight_eq_div_pow]
  have h1 := a.toNat_lt
  have h2 := b.toNat_lt
  have h3 := c.toNat_lt
  have h4 := d.toNat_lt
  have z : (0 : UInt64).toNat = 0 := rfl
  generalize (c &&& (~~~3 : UInt64)) = lo at *
  generalize (c &&& 3) = c3 at *
  generalize (lo >>> 2 ||| d <<< 62) = l2 at *
  generalize (d >>> 2) = d2 at *
  have e1 := P3.plus_val ⟨a, b, c3⟩ lo d 0 (by simp only [z]; omega)
  have l1 : (P3.plus ⟨a, b, c3⟩ lo d 0).c.toNat ≤ 8 := by
    have q : (P3.plus ⟨a, b, c3⟩ lo d 0).val < 340282366920938463463374607431768211456 * 8 := by rw [e1]; unfold P3.val; simp only [z]; omega
    unfold P3.val at q
    omega
  have e2 := P3.plus_val (P3.plus ⟨a, b, c3⟩ lo d 0) l2 d2 0 (by simp only [z]; omega)
  rw [e2, e1]
  unfold P3.val P4.val
  simp only [z]
  omega
end Cha
end Go.Proofs.Ytbcboldepghgpaa
