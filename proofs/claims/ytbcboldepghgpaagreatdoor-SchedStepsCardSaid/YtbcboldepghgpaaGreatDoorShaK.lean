/-
  The reference's sums, in plain Lean: its words, its schedule, its rounds are the program's.
-/
import Derived.Test.YtbcboldepghgpaaGreatDoorShaJ
import Derived.Test.YtbcboldepghgpaaGreatDoorCalm
set_option linter.unusedVariables false
set_option linter.unusedSimpArgs false
set_option maxRecDepth 100000
namespace Go.Proofs.YtbcboldepghgpaaGreatDoor
open Go.RowKit
theorem bits_not_n8 (x : UInt8) : bits .xor .u8 (if IntKind.u8.signed = true then -1 else IntKind.u8.max) ((n8 x : Nat) : Int) = ((n8 (~~~x) : Nat) : Int) := by
  rw [if_neg (by decide)]
  have e : (IntKind.u8.max : Int) = ((n8 (255 : UInt8) : Nat) : Int) := by decide
  rw [e, bits_xor_n8]
  congr 2
attribute [go_sem high] bits_not_n8
theorem bits_not_n16 (x : UInt16) : bits .xor .u16 (if IntKind.u16.signed = true then -1 else IntKind.u16.max) ((n16 x : Nat) : Int) = ((n16 (~~~x) : Nat) : Int) := by
  rw [if_neg (by decide)]
  have e : (IntKind.u16.max : Int) = ((n16 (65535 : UInt16) : Nat) : Int) := by decide
  rw [e, bits_xor_n16]
  congr 2
attribute [go_sem high] bits_not_n16
theorem bits_not_n32 (x : UInt32) : bits .xor .u32 (if IntKind.u32.signed = true then -1 else IntKind.u32.max) ((n32 x : Nat) : Int) = ((n32 (~~~x) : Nat) : Int) := by
  rw [if_neg (by decide)]
  have e : (IntKind.u32.max : Int) = ((n32 (4294967295 : UInt32) : Nat) : Int) := by decide
  rw [e, bits_xor_n32]
  congr 2
attribute [go_sem high] bits_not_n32
theorem bits_not_n64 (x : UInt64) : bits .xor .u64 (if IntKind.u64.signed = true then -1 else IntKind.u64.max) ((n64 x : Nat) : Int) = ((n64 (~~~x) : Nat) : Int) := by
  rw [if_neg (by decide)]
  have e : (IntKind.u64.max : Int) = ((n64 (18446744073709551615 : UInt64) : Nat) : Int) := by decide
  rw [e, bits_xor_n64]
  congr 2
attribute [go_sem high] bits_not_n64
namespace Sha32
theorem shr_lit10 (x : W) : x >>> 10 = shr32 x 10 := by
  apply UInt32.toNat_inj.1
  rw [shr32, UInt32.toNat_shiftRight, UInt32.toNat_ofNat', Nat.shiftRight_eq_div_pow]
  have h := x.toNat_lt
  rw [Nat.mod_eq_of_lt (Nat.lt_of_le_of_lt (Nat.div_le_self _ _) h)]
  rfl
theorem shr_lit3 (x : W) : x >>> 3 = shr32 x 3 := by
  apply UInt32.toNat_inj.1
  rw [shr32, UInt32.toNat_shiftRight, UInt32.toNat_ofNat', Nat.shiftRight_eq_div_pow]
  have h := x.toNat_lt
  rw [Nat.mod_eq_of_lt (Nat.lt_of_le_of_lt (Nat.div_le_self _ _) h)]
  rfl
/-- l, and noughts up to n words. -/
def pad (n : Nat) (l : List W) : List W := l ++ List.replicate (n - l.length) 0
theorem pad_len (n : Nat) (l : List W) (h : l.length ≤ n) : (pad n l).length = n := by rw [pad, List.length_append, List.length_replicate]; omega
theorem pad_at (n : Nat) (l : List W) (i : Nat) (h : i < l.length) : at_ (pad n l) i = at_ l i := by
  unfold at_ pad
  rw [List.getD_eq_getElem?_getD, List.getD_eq_getElem?_getD, List.getElem?_append_left h]
theorem pad_set (n : Nat) (l : List W) (x : W) (h : l.length < n) : (pad n l).set l.length x = pad n (l ++ [x]) := by
  unfold pad
  rw [List.set_append_right _ _ (Nat.le_refl _), Nat.sub_self, show n - l.length = (n - (l.length + 1)) + 1 by omega, List.replicate_succ, List.set_cons_zero, List.length_append, List.append_assoc]
  rfl
theorem pad_full (l : List W) : pad l.length l = l := by rw [pad, Nat.sub_self, List.replicate_zero, List.append_nil]
theorem pad_none (n : Nat) : pad n [] = List.replicate n 0 := by rw [pad, List.nil_append, List.length_nil, Nat.sub_zero]
/-- One step of the schedule, as the reference reckons it. -/
theorem next_is (l : List W) (x y : W) (hx : at_ l (l.length - 15) = x) (hy : at_ l (l.length - 2) = y) :
    next l = (rot y 17 ^^^ rot y 19 ^^^ y >>> 10) + at_ l (l.length - 7) + (rot x 7 ^^^ rot x 18 ^^^ x >>> 3) + at_ l (l.length - 16) := by
  rw [next, hx, hy, far, near, sig, sig, shr_lit10, shr_lit3]
/-- One round's first sum, as the reference reckons it; the second one. -/
theorem x_is (kt wt : W) (v : V) : xOf kt wt v = v.h + (rot v.e 6 ^^^ rot v.e 11 ^^^ rot v.e 25) + (v.e &&& v.f ^^^ ~~~v.e &&& v.g) + kt + wt := by
  rw [xOf, ch_is, fifth, big]
theorem y_is (v : V) : yOf v = (rot v.a 2 ^^^ rot v.a 13 ^^^ rot v.a 22) + (v.a &&& v.b ^^^ v.a &&& v.c ^^^ v.b &&& v.c) := by
  rw [yOf, maj_is, first, big]
theorem toV_ofV (v : V) : toV (ofV v) = v := rfl
theorem ofV_len (v : V) : (ofV v).length = 8 := rfl
theorem ofV_toV (s : List W) (h : s.length = 8) : ofV (toV s) = s := by
  match s, h with
  | [a, b, c, d, e, f, g, h'], _ => rfl
theorem ofV_at (v : V) : at_ (ofV v) 0 = v.a ∧ at_ (ofV v) 1 = v.b ∧ at_ (ofV v) 2 = v.c ∧ at_ (ofV v) 3 = v.d ∧ at_ (ofV v) 4 = v.e ∧ at_ (ofV v) 5 = v.f ∧ at_ (ofV v) 6 = v.g ∧ at_ (ofV v) 7 = v.h := ⟨rfl, rfl, rfl, rfl, rfl, rfl, rfl, rfl⟩
/-- A block's state behind all rounds. -/
theorem block_is (s w : List W) : block s w = iter (add8 (ofV (iter (round (iter more 48 w)) 64 (toV s)))) 8 s := rfl
/-- The byte of a block. -/
theorem nth_block (l : List UInt8) (a i : Nat) (h : i < 64) : nth ((l.drop a).take 64) i = nth l (a + i) := by
  unfold nth
  rw [List.getD_eq_getElem?_getD, List.getD_eq_getElem?_getD, List.getElem?_take_of_lt h, List.getElem?_drop]
theorem nth_from (l : List UInt8) (a i : Nat) : nth (l.drop a) i = nth l (a + i) := by
  unfold nth
  rw [List.getD_eq_getElem?_getD, List.getD_eq_getElem?_getD, List.getElem?_drop]
theorem add8_at (u s : List W) (hs : s.length = 8) (k i : Nat) (hki : k ≤ i) : at_ (iter (add8 u) k s) i = at_ s i := by
  induction k with
  | zero => rfl
  | succ k ih =>
    rw [iter, add8]
    unfold at_ at *
    rw [List.getD_eq_getElem?_getD, List.getElem?_set_ne (by omega), ← List.getD_eq_getElem?_getD, ih (by omega)]
end Sha32
namespace Sha64
theorem shr_lit6 (x : W) : x >>> 6 = shr64 x 6 := by
  apply UInt64.toNat_inj.1
  rw [shr64, UInt64.toNat_shiftRight, UInt64.toNat_ofNat', Nat.shiftRight_eq_div_pow]
  have h := x.toNat_lt
  rw [Nat.mod_eq_of_lt (Nat.lt_of_le_of_lt (Nat.div_le_self _ _) h)]
  rfl
theorem shr_lit7 (x : W) : x >>> 7 = shr64 x 7 := by
  apply UInt64.toNat_inj.1
  rw [shr64, UInt64.toNat_shiftRight, UInt64.toNat_ofNat', Nat.shiftRight_eq_div_pow]
  have h := x.toNat_lt
  rw [Nat.mod_eq_of_lt (Nat.lt_of_le_of_lt (Nat.div_le_self _ _) h)]
  rfl
/-- l, and noughts up to n words. -/
def pad (n : Nat) (l : List W) : List W := l ++ List.replicate (n - l.length) 0
theorem pad_len (n : Nat) (l : List W) (h : l.length ≤ n) : (pad n l).length = n := by rw [pad, List.length_append, List.length_replicate]; omega
theorem pad_at (n : Nat) (l : List W) (i : Nat) (h : i < l.length) : at_ (pad n l) i = at_ l i := by
  unfold at_ pad
  rw [List.getD_eq_getElem?_getD, List.getD_eq_getElem?_getD, List.getElem?_append_left h]
theorem pad_set (n : Nat) (l : List W) (x : W) (h : l.length < n) : (pad n l).set l.length x = pad n (l ++ [x]) := by
  unfold pad
  rw [List.set_append_right _ _ (Nat.le_refl _), Nat.sub_self, show n - l.length = (n - (l.length + 1)) + 1 by omega, List.replicate_succ, List.set_cons_zero, List.length_append, List.append_assoc]
  rfl
theorem pad_full (l : List W) : pad l.length l = l := by rw [pad, Nat.sub_self, List.replicate_zero, List.append_nil]
theorem pad_none (n : Nat) : pad n [] = List.replicate n 0 := by rw [pad, List.nil_append, List.length_nil, Nat.sub_zero]
/-- One step of the schedule, as the reference reckons it. -/
theorem next_is (l : List W) (x y : W) (hx : at_ l (l.length - 15) = x) (hy : at_ l (l.length - 2) = y) :
    next l = (rot y 19 ^^^ rot y 61 ^^^ y >>> 6) + at_ l (l.length - 7) + (rot x 1 ^^^ rot x 8 ^^^ x >>> 7) + at_ l (l.length - 16) := by
  rw [next, hx, hy, far, near, sig, sig, shr_lit6, shr_lit7]
/-- One round's first sum, as the reference reckons it; the second one. -/
theorem x_is (kt wt : W) (v : V) : xOf kt wt v = v.h + (rot v.e 14 ^^^ rot v.e 18 ^^^ rot v.e 41) + (v.e &&& v.f ^^^ ~~~v.e &&& v.g) + kt + wt := by
  rw [xOf, ch_is, fifth, big]
theorem y_is (v : V) : yOf v = (rot v.a 28 ^^^ rot v.a 34 ^^^ rot v.a 39) + (v.a &&& v.b ^^^ v.a &&& v.c ^^^ v.b &&& v.c) := by
  rw [yOf, maj_is, first, big]
theorem toV_ofV (v : V) : toV (ofV v) = v := rfl
theorem ofV_len (v : V) : (ofV v).length = 8 := rfl
theorem ofV_toV (s : List W) (h : s.length = 8) : ofV (toV s) = s := by
  match s, h with
  | [a, b, c, d, e, f, g, h'], _ => rfl
theorem ofV_at (v : V) : at_ (ofV v) 0 = v.a ∧ at_ (ofV v) 1 = v.b ∧ at_ (ofV v) 2 = v.c ∧ at_ (ofV v) 3 = v.d ∧ at_ (ofV v) 4 = v.e ∧ at_ (ofV v) 5 = v.f ∧ at_ (ofV v) 6 = v.g ∧ at_ (ofV v) 7 = v.h := ⟨rfl, rfl, rfl, rfl, rfl, rfl, rfl, rfl⟩
/-- A block's state behind all rounds. -/
theorem block_is (s w : List W) : block s w = iter (add8 (ofV (iter (round (iter more 64 w)) 80 (toV s)))) 8 s := rfl
/-- The byte of a block. -/
theorem nth_block (l : List UInt8) (a i : Nat) (h : i < 128) : nth ((l.drop a).take 128) i = nth l (a + i) := by
  unfold nth
  rw [List.getD_eq_getElem?_getD, List.getD_eq_getElem?_getD, List.getElem?_take_of_lt h, List.getElem?_drop]
theorem nth_from (l : List UInt8) (a i : Nat) : nth (l.drop a) i = nth l (a + i) := by
  unfold nth
  rw [List.getD_eq_getElem?_getD, List.getD_eq_getElem?_getD, List.getElem?_drop]
theorem add8_at (u s : List W) (hs : s.length = 8) (k i : Nat) (hki : k ≤ i) : at_ (iter (add8 u) k s) i = at_ s i := by
  induction k with
  | zero => rfl
  | succ k ih =>
    rw [iter, add8]
    unfold at_ at *
    rw [List.getD_eq_getElem?_getD, List.getElem?_set_ne (by omega), ← List.getD_eq_getElem?_getD, ih (by omega)]
end Sha64
namespace Sha32
theorem word4 (b : List UInt8) : wordTo b 4 = (nth b 0).toUInt32 <<< 24 ||| (nth b 1).toUInt32 <<< 16 ||| (nth b 2).toUInt32 <<< 8 ||| (nth b 3).toUInt32 := by
  have h : ∀ a b c d : UInt8, (((((0 : UInt32) <<< 8 ||| a.toUInt32) <<< 8 ||| b.toUInt32) <<< 8 ||| c.toUInt32) <<< 8 ||| d.toUInt32) = a.toUInt32 <<< 24 ||| b.toUInt32 <<< 16 ||| c.toUInt32 <<< 8 ||| d.toUInt32 := by
    intro a b c d
    apply UInt32.eq_of_toBitVec_eq
    apply BitVec.eq_of_getLsbD_eq
    intro i hi
    simp
    rcases Nat.lt_or_ge i 8 with h1 | h1
    · simp [h1, show i < 16 by omega, show i < 24 by omega]
    · rcases Nat.lt_or_ge i 16 with h2 | h2
      · simp [show ¬ i < 8 by omega, h2, show i < 24 by omega, show i - 8 < 8 by omega]
      · rcases Nat.lt_or_ge i 24 with h3 | h3
        · simp [show i - 8 < 32 by omega, show i - 16 < 32 by omega, show ¬ i < 8 by omega, show ¬ i < 16 by omega, h3, show ¬ i - 8 < 8 by omega, show i - 8 - 8 = i - 16 by omega, show i - 16 < 8 by omega, hi]
        · simp [show i - 8 < 32 by omega, show i - 16 < 32 by omega, show i - 24 < 32 by omega, show ¬ i < 8 by omega, show ¬ i < 16 by omega, show ¬ i < 24 by omega, show ¬ i - 8 < 8 by omega, show i - 8 - 8 = i - 16 by omega, show i - 16 - 8 = i - 24 by omega, show ¬ i - 16 < 8 by omega, hi]
  exact h _ _ _ _
end Sha32
namespace Sha
theorem out4 (x : UInt32) : spreadTo x.toUInt64 4 4 = [(x >>> 24).toUInt8, (x >>> 16).toUInt8, (x >>> 8).toUInt8, x.toUInt8] := by
  have h : ∀ k : Nat, k < 32 → (shr64 x.toUInt64 k).toUInt8 = (shr32 x k).toUInt8 := by
    intro k hk
    apply UInt8.toNat_inj.1
    rw [shr64, shr32, UInt64.toNat_toUInt8, UInt32.toNat_toUInt8, UInt64.toNat_ofNat', UInt32.toNat_ofNat', UInt32.toNat_toUInt64, Nat.min_eq_left (by omega), Nat.min_eq_left (by omega)]
    have h := x.toNat_lt
    rw [Nat.mod_eq_of_lt (Nat.lt_of_le_of_lt (Nat.div_le_self _ _) h), Nat.mod_eq_of_lt (Nat.lt_of_le_of_lt (Nat.div_le_self _ _) (by omega))]
  have e : ∀ k : Nat, k < 32 → ∀ y : UInt32, y.toNat = k → x >>> y = shr32 x k := by
    intro k hk y hy
    apply UInt32.toNat_inj.1
    rw [shr32, UInt32.toNat_shiftRight, UInt32.toNat_ofNat', hy, Nat.shiftRight_eq_div_pow, Nat.mod_eq_of_lt hk, Nat.min_eq_left (by omega)]
    have h := x.toNat_lt
    rw [Nat.mod_eq_of_lt (Nat.lt_of_le_of_lt (Nat.div_le_self _ _) h)]
  have e0 : shr32 x 0 = x := by
    apply UInt32.toNat_inj.1
    rw [shr32, UInt32.toNat_ofNat']
    have h := x.toNat_lt
    simp
  show [(shr64 x.toUInt64 24).toUInt8, (shr64 x.toUInt64 16).toUInt8, (shr64 x.toUInt64 8).toUInt8, (shr64 x.toUInt64 0).toUInt8] = _
  rw [h 24 (by omega), h 16 (by omega), h 8 (by omega), h 0 (by omega), e 24 (by omega) 24 rfl, e 16 (by omega) 16 rfl, e 8 (by omega) 8 rfl, e0]
end Sha
end Go.Proofs.YtbcboldepghgpaaGreatDoor
