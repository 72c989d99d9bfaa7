/-
  Rules for a walk: an unsigned Go number is '.int .u8 (n8 x)' with x : UInt8 (n16, n32, n64 alike). Then Go's operations on it are Lean's own on UInt8 and its kin.
-/
import Derived.WalkKit
set_option linter.unusedVariables false
set_option linter.unusedSimpArgs false
set_option maxRecDepth 100000
namespace Go.Proofs.YtncaplplkfihgaaGreatDoor
open Go.RowKit Go.Proofs
theorem bv_ofInt_sub (w : Nat) (x y : Int) : BitVec.ofInt w (x - y) = BitVec.ofInt w x - BitVec.ofInt w y := by
  rw [Int.sub_eq_add_neg, BitVec.ofInt_add, BitVec.ofInt_neg, BitVec.sub_eq_add_neg]

def n8 (x : UInt8) : Nat := x.toNat
theorem n8_lt (x : UInt8) : n8 x < 256 := x.toNat_lt
theorem n8_inj (a b : UInt8) : n8 a = n8 b ↔ a = b := ⟨fun h => UInt8.toNat_inj.1 h, fun h => h ▸ rfl⟩
theorem n8_lit (k : Nat) (h : k < 256) : (k : Int) = ((n8 (UInt8.ofNat k) : Nat) : Int) := by simp [n8, Nat.mod_eq_of_lt h]
theorem ofInt_n8 (x : UInt8) : BitVec.ofInt 8 ((n8 x : Nat) : Int) = x.toBitVec := by simp [n8, BitVec.ofInt_natCast]
theorem ofInt_lit8 (k : Nat) : BitVec.ofInt 8 (OfNat.ofNat k : Int) = (OfNat.ofNat k : UInt8).toBitVec := BitVec.ofInt_natCast 8 k
theorem wrap_n8 (x : Int) : IntKind.u8.wrap x = ((n8 (UInt8.ofBitVec (BitVec.ofInt 8 x)) : Nat) : Int) := by
  simp only [n8, IntKind.wrap, IntKind.bits, IntKind.signed, Bool.false_and, Bool.false_eq_true, if_false]
  show _ = (((BitVec.ofInt 8 x).toNat : Nat) : Int)
  rw [BitVec.toNat_ofInt]; omega
theorem bits_and_n8 (a b : UInt8) : bits .and .u8 ((n8 a : Nat) : Int) ((n8 b : Nat) : Int) = ((n8 (a &&& b) : Nat) : Int) := by
  show IntKind.u8.wrap (((BitVec.ofInt 8 ((n8 a : Nat) : Int) &&& BitVec.ofInt 8 ((n8 b : Nat) : Int)).toNat : Nat) : Int) = _
  rw [ofInt_n8, ofInt_n8, wrap_n8, BitVec.ofInt_natCast, BitVec.ofNat_toNat, BitVec.setWidth_eq]; rfl
theorem bits_and_n8_lit (a : UInt8) (k : Nat) : bits .and .u8 ((n8 a : Nat) : Int) (no_index (OfNat.ofNat k) : Int) = ((n8 (a &&& (no_index (OfNat.ofNat k) : UInt8)) : Nat) : Int) := by
  show IntKind.u8.wrap (((BitVec.ofInt 8 ((n8 a : Nat) : Int) &&& BitVec.ofInt 8 (no_index (OfNat.ofNat k) : Int)).toNat : Nat) : Int) = _
  rw [ofInt_n8, ofInt_lit8, wrap_n8, BitVec.ofInt_natCast, BitVec.ofNat_toNat, BitVec.setWidth_eq]; rfl
theorem bits_and_lit_n8 (b : UInt8) (k : Nat) : bits .and .u8 (no_index (OfNat.ofNat k) : Int) ((n8 b : Nat) : Int) = ((n8 ((no_index (OfNat.ofNat k) : UInt8) &&& b) : Nat) : Int) := by
  show IntKind.u8.wrap (((BitVec.ofInt 8 (no_index (OfNat.ofNat k) : Int) &&& BitVec.ofInt 8 ((n8 b : Nat) : Int)).toNat : Nat) : Int) = _
  rw [ofInt_lit8, ofInt_n8, wrap_n8, BitVec.ofInt_natCast, BitVec.ofNat_toNat, BitVec.setWidth_eq]; rfl
theorem bits_or_n8 (a b : UInt8) : bits .or .u8 ((n8 a : Nat) : Int) ((n8 b : Nat) : Int) = ((n8 (a ||| b) : Nat) : Int) := by
  show IntKind.u8.wrap (((BitVec.ofInt 8 ((n8 a : Nat) : Int) ||| BitVec.ofInt 8 ((n8 b : Nat) : Int)).toNat : Nat) : Int) = _
  rw [ofInt_n8, ofInt_n8, wrap_n8, BitVec.ofInt_natCast, BitVec.ofNat_toNat, BitVec.setWidth_eq]; rfl
theorem bits_or_n8_lit (a : UInt8) (k : Nat) : bits .or .u8 ((n8 a : Nat) : Int) (no_index (OfNat.ofNat k) : Int) = ((n8 (a ||| (no_index (OfNat.ofNat k) : UInt8)) : Nat) : Int) := by
  show IntKind.u8.wrap (((BitVec.ofInt 8 ((n8 a : Nat) : Int) ||| BitVec.ofInt 8 (no_index (OfNat.ofNat k) : Int)).toNat : Nat) : Int) = _
  rw [ofInt_n8, ofInt_lit8, wrap_n8, BitVec.ofInt_natCast, BitVec.ofNat_toNat, BitVec.setWidth_eq]; rfl
theorem bits_or_lit_n8 (b : UInt8) (k : Nat) : bits .or .u8 (no_index (OfNat.ofNat k) : Int) ((n8 b : Nat) : Int) = ((n8 ((no_index (OfNat.ofNat k) : UInt8) ||| b) : Nat) : Int) := by
  show IntKind.u8.wrap (((BitVec.ofInt 8 (no_index (OfNat.ofNat k) : Int) ||| BitVec.ofInt 8 ((n8 b : Nat) : Int)).toNat : Nat) : Int) = _
  rw [ofInt_lit8, ofInt_n8, wrap_n8, BitVec.ofInt_natCast, BitVec.ofNat_toNat, BitVec.setWidth_eq]; rfl
theorem bits_xor_n8 (a b : UInt8) : bits .xor .u8 ((n8 a : Nat) : Int) ((n8 b : Nat) : Int) = ((n8 (a ^^^ b) : Nat) : Int) := by
  show IntKind.u8.wrap (((BitVec.ofInt 8 ((n8 a : Nat) : Int) ^^^ BitVec.ofInt 8 ((n8 b : Nat) : Int)).toNat : Nat) : Int) = _
  rw [ofInt_n8, ofInt_n8, wrap_n8, BitVec.ofInt_natCast, BitVec.ofNat_toNat, BitVec.setWidth_eq]; rfl
theorem bits_xor_n8_lit (a : UInt8) (k : Nat) : bits .xor .u8 ((n8 a : Nat) : Int) (no_index (OfNat.ofNat k) : Int) = ((n8 (a ^^^ (no_index (OfNat.ofNat k) : UInt8)) : Nat) : Int) := by
  show IntKind.u8.wrap (((BitVec.ofInt 8 ((n8 a : Nat) : Int) ^^^ BitVec.ofInt 8 (no_index (OfNat.ofNat k) : Int)).toNat : Nat) : Int) = _
  rw [ofInt_n8, ofInt_lit8, wrap_n8, BitVec.ofInt_natCast, BitVec.ofNat_toNat, BitVec.setWidth_eq]; rfl
theorem bits_xor_lit_n8 (b : UInt8) (k : Nat) : bits .xor .u8 (no_index (OfNat.ofNat k) : Int) ((n8 b : Nat) : Int) = ((n8 ((no_index (OfNat.ofNat k) : UInt8) ^^^ b) : Nat) : Int) := by
  show IntKind.u8.wrap (((BitVec.ofInt 8 (no_index (OfNat.ofNat k) : Int) ^^^ BitVec.ofInt 8 ((n8 b : Nat) : Int)).toNat : Nat) : Int) = _
  rw [ofInt_lit8, ofInt_n8, wrap_n8, BitVec.ofInt_natCast, BitVec.ofNat_toNat, BitVec.setWidth_eq]; rfl
theorem bits_andNot_n8 (a b : UInt8) : bits .andNot .u8 ((n8 a : Nat) : Int) ((n8 b : Nat) : Int) = ((n8 (a &&& ~~~b) : Nat) : Int) := by
  show IntKind.u8.wrap (((BitVec.ofInt 8 ((n8 a : Nat) : Int) &&& ~~~(BitVec.ofInt 8 ((n8 b : Nat) : Int))).toNat : Nat) : Int) = _
  rw [ofInt_n8, ofInt_n8, wrap_n8, BitVec.ofInt_natCast, BitVec.ofNat_toNat, BitVec.setWidth_eq]; rfl
theorem bits_andNot_n8_lit (a : UInt8) (k : Nat) : bits .andNot .u8 ((n8 a : Nat) : Int) (no_index (OfNat.ofNat k) : Int) = ((n8 (a &&& ~~~(no_index (OfNat.ofNat k) : UInt8)) : Nat) : Int) := by
  show IntKind.u8.wrap (((BitVec.ofInt 8 ((n8 a : Nat) : Int) &&& ~~~(BitVec.ofInt 8 (no_index (OfNat.ofNat k) : Int))).toNat : Nat) : Int) = _
  rw [ofInt_n8, ofInt_lit8, wrap_n8, BitVec.ofInt_natCast, BitVec.ofNat_toNat, BitVec.setWidth_eq]; rfl
theorem bits_andNot_lit_n8 (b : UInt8) (k : Nat) : bits .andNot .u8 (no_index (OfNat.ofNat k) : Int) ((n8 b : Nat) : Int) = ((n8 ((no_index (OfNat.ofNat k) : UInt8) &&& ~~~b) : Nat) : Int) := by
  show IntKind.u8.wrap (((BitVec.ofInt 8 (no_index (OfNat.ofNat k) : Int) &&& ~~~(BitVec.ofInt 8 ((n8 b : Nat) : Int))).toNat : Nat) : Int) = _
  rw [ofInt_lit8, ofInt_n8, wrap_n8, BitVec.ofInt_natCast, BitVec.ofNat_toNat, BitVec.setWidth_eq]; rfl
theorem wrap_add_n8 (a b : UInt8) : IntKind.u8.wrap (((n8 a : Nat) : Int) + ((n8 b : Nat) : Int)) = ((n8 (a + b) : Nat) : Int) := by
  rw [wrap_n8, BitVec.ofInt_add, ofInt_n8, ofInt_n8]; rfl
theorem wrap_add_n8_lit (a : UInt8) (k : Nat) : IntKind.u8.wrap (((n8 a : Nat) : Int) + (no_index (OfNat.ofNat k) : Int)) = ((n8 (a + (no_index (OfNat.ofNat k) : UInt8)) : Nat) : Int) := by
  rw [wrap_n8, BitVec.ofInt_add, ofInt_n8, ofInt_lit8]; rfl
theorem wrap_add_lit_n8 (b : UInt8) (k : Nat) : IntKind.u8.wrap ((no_index (OfNat.ofNat k) : Int) + ((n8 b : Nat) : Int)) = ((n8 ((no_index (OfNat.ofNat k) : UInt8) + b) : Nat) : Int) := by
  rw [wrap_n8, BitVec.ofInt_add, ofInt_lit8, ofInt_n8]; rfl
theorem wrap_sub_n8 (a b : UInt8) : IntKind.u8.wrap (((n8 a : Nat) : Int) - ((n8 b : Nat) : Int)) = ((n8 (a - b) : Nat) : Int) := by
  rw [wrap_n8, bv_ofInt_sub, ofInt_n8, ofInt_n8]; rfl
theorem wrap_sub_n8_lit (a : UInt8) (k : Nat) : IntKind.u8.wrap (((n8 a : Nat) : Int) - (no_index (OfNat.ofNat k) : Int)) = ((n8 (a - (no_index (OfNat.ofNat k) : UInt8)) : Nat) : Int) := by
  rw [wrap_n8, bv_ofInt_sub, ofInt_n8, ofInt_lit8]; rfl
theorem wrap_sub_lit_n8 (b : UInt8) (k : Nat) : IntKind.u8.wrap ((no_index (OfNat.ofNat k) : Int) - ((n8 b : Nat) : Int)) = ((n8 ((no_index (OfNat.ofNat k) : UInt8) - b) : Nat) : Int) := by
  rw [wrap_n8, bv_ofInt_sub, ofInt_lit8, ofInt_n8]; rfl
theorem wrap_mul_n8 (a b : UInt8) : IntKind.u8.wrap (((n8 a : Nat) : Int) * ((n8 b : Nat) : Int)) = ((n8 (a * b) : Nat) : Int) := by
  rw [wrap_n8, BitVec.ofInt_mul, ofInt_n8, ofInt_n8]; rfl
theorem wrap_mul_n8_lit (a : UInt8) (k : Nat) : IntKind.u8.wrap (((n8 a : Nat) : Int) * (no_index (OfNat.ofNat k) : Int)) = ((n8 (a * (no_index (OfNat.ofNat k) : UInt8)) : Nat) : Int) := by
  rw [wrap_n8, BitVec.ofInt_mul, ofInt_n8, ofInt_lit8]; rfl
theorem wrap_mul_lit_n8 (b : UInt8) (k : Nat) : IntKind.u8.wrap ((no_index (OfNat.ofNat k) : Int) * ((n8 b : Nat) : Int)) = ((n8 ((no_index (OfNat.ofNat k) : UInt8) * b) : Nat) : Int) := by
  rw [wrap_n8, BitVec.ofInt_mul, ofInt_lit8, ofInt_n8]; rfl
theorem wrap_neg_n8 (a : UInt8) : IntKind.u8.wrap (-((n8 a : Nat) : Int)) = ((n8 (-a) : Nat) : Int) := by
  rw [wrap_n8, BitVec.ofInt_neg, ofInt_n8]; rfl
theorem shl_n8_lit (a : UInt8) (yk : IntKind) (k : Nat) (h : k < 8) : Op.shift .shl .u8 ((n8 a : Nat) : Int) yk (no_index (OfNat.ofNat k) : Int) = pure (.int .u8 ((n8 (a <<< (no_index (OfNat.ofNat k) : UInt8)) : Nat) : Int)) := by
  show Op.shift .shl .u8 ((n8 a : Nat) : Int) yk ((k : Nat) : Int) = _
  rw [shift_shl_any _ _ _ _ (Int.natCast_nonneg k)]
  show pure (Value.int _ (IntKind.u8.wrap (((n8 a : Nat) : Int) * 2 ^ min k 8))) = _
  rw [Nat.min_eq_left (by omega), wrap_n8]
  congr 3
  show (BitVec.ofInt 8 (((n8 a : Nat) : Int) * 2 ^ k)).toNat = (a <<< (no_index (OfNat.ofNat k) : UInt8)).toNat
  rw [UInt8.toNat_shiftLeft]
  have e : (((n8 a : Nat) : Int) * 2 ^ k : Int) = ((n8 a * 2 ^ k : Nat) : Int) := by push_cast; rfl
  have e2 : (OfNat.ofNat k : UInt8).toNat = k % 256 := UInt8.toNat_ofNat
  rw [e, BitVec.ofInt_natCast, BitVec.toNat_ofNat, e2, Nat.shiftLeft_eq, Nat.mod_eq_of_lt (a := k) (b := 256) (by omega), Nat.mod_eq_of_lt (a := k) (b := 8) h]; rfl
theorem shr_n8_lit (a : UInt8) (yk : IntKind) (k : Nat) (h : k < 8) : Op.shift .shr .u8 ((n8 a : Nat) : Int) yk (no_index (OfNat.ofNat k) : Int) = pure (.int .u8 ((n8 (a >>> (no_index (OfNat.ofNat k) : UInt8)) : Nat) : Int)) := by
  show Op.shift .shr .u8 ((n8 a : Nat) : Int) yk ((k : Nat) : Int) = _
  rw [shift_shr_any _ _ _ _ (Int.natCast_nonneg k)]
  show pure (Value.int _ (((n8 a : Nat) : Int) / 2 ^ min k 8)) = _
  rw [Nat.min_eq_left (by omega)]
  have e : (((n8 a : Nat) : Int) / 2 ^ k : Int) = ((n8 a / 2 ^ k : Nat) : Int) := by push_cast; rfl
  have e2 : (OfNat.ofNat k : UInt8).toNat = k % 256 := UInt8.toNat_ofNat
  rw [e]; congr 2; congr 1
  show a.toNat / 2 ^ k = (a >>> (no_index (OfNat.ofNat k) : UInt8)).toNat
  rw [UInt8.toNat_shiftRight, e2, Nat.shiftRight_eq_div_pow, Nat.mod_eq_of_lt (a := k) (b := 256) (by omega), Nat.mod_eq_of_lt (a := k) (b := 8) h]
def shl8 (a : UInt8) (j : Nat) : UInt8 := UInt8.ofNat (a.toNat * 2 ^ min j 8)
def shr8 (a : UInt8) (j : Nat) : UInt8 := UInt8.ofNat (a.toNat / 2 ^ min j 8)
theorem shl_n8_nat (a : UInt8) (yk : IntKind) (j : Nat) : Op.shift .shl .u8 ((n8 a : Nat) : Int) yk (j : Int) = pure (.int .u8 ((n8 (shl8 a j) : Nat) : Int)) := by
  rw [shift_shl_any _ _ _ _ (Int.natCast_nonneg j)]
  show pure (Value.int _ (IntKind.u8.wrap (((n8 a : Nat) : Int) * 2 ^ min j 8))) = _
  have e : (((n8 a : Nat) : Int) * 2 ^ min j 8 : Int) = ((n8 a * 2 ^ min j 8 : Nat) : Int) := by push_cast; rfl
  rw [wrap_n8, e, BitVec.ofInt_natCast]; rfl
theorem shr_n8_nat (a : UInt8) (yk : IntKind) (j : Nat) : Op.shift .shr .u8 ((n8 a : Nat) : Int) yk (j : Int) = pure (.int .u8 ((n8 (shr8 a j) : Nat) : Int)) := by
  rw [shift_shr_any _ _ _ _ (Int.natCast_nonneg j)]
  show pure (Value.int _ (((n8 a : Nat) : Int) / 2 ^ min j 8)) = _
  have e : (((n8 a : Nat) : Int) / 2 ^ min j 8 : Int) = ((n8 a / 2 ^ min j 8 : Nat) : Int) := by push_cast; rfl
  have hl : n8 a / 2 ^ min j 8 < 256 := Nat.lt_of_le_of_lt (Nat.div_le_self _ _) (n8_lt a)
  rw [e]; congr 2; congr 1
  show n8 a / 2 ^ min j 8 = (UInt8.ofNat (a.toNat / 2 ^ min j 8)).toNat
  rw [UInt8.toNat_ofNat']; exact (Nat.mod_eq_of_lt hl).symm
theorem beq_n8 (a b : UInt8) : (((n8 a : Nat) : Int) == ((n8 b : Nat) : Int)) = (a == b) := by
  rw [Bool.eq_iff_iff, beq_iff_eq, beq_iff_eq, Int.ofNat_inj]; exact n8_inj a b
theorem bne_n8 (a b : UInt8) : (((n8 a : Nat) : Int) != ((n8 b : Nat) : Int)) = (a != b) := by
  show (!(((n8 a : Nat) : Int) == ((n8 b : Nat) : Int))) = !(a == b)
  rw [beq_n8]
theorem declt_n8 (a b : UInt8) : decide (((n8 a : Nat) : Int) < ((n8 b : Nat) : Int)) = decide (a < b) := by
  apply decide_eq_decide.2; rw [UInt8.lt_iff_toNat_lt]; exact Int.ofNat_lt
theorem decle_n8 (a b : UInt8) : decide (((n8 a : Nat) : Int) ≤ ((n8 b : Nat) : Int)) = decide (a ≤ b) := by
  apply decide_eq_decide.2; rw [UInt8.le_iff_toNat_le]; exact Int.ofNat_le
theorem lit_n8 (k : Nat) (h : k < 256) : (OfNat.ofNat k : Int) = ((n8 (OfNat.ofNat k : UInt8) : Nat) : Int) := n8_lit k h
theorem beq_n8_lit (a : UInt8) (k : Nat) (h : k < 256) : (((n8 a : Nat) : Int) == (no_index (OfNat.ofNat k) : Int)) = (a == (no_index (OfNat.ofNat k) : UInt8)) := by
  rw [lit_n8 k h]; exact beq_n8 a _
theorem bne_n8_lit (a : UInt8) (k : Nat) (h : k < 256) : (((n8 a : Nat) : Int) != (no_index (OfNat.ofNat k) : Int)) = (a != (no_index (OfNat.ofNat k) : UInt8)) := by
  rw [lit_n8 k h]; exact bne_n8 a _
theorem declt_n8_lit (a : UInt8) (k : Nat) (h : k < 256) : decide (((n8 a : Nat) : Int) < (no_index (OfNat.ofNat k) : Int)) = decide (a < (no_index (OfNat.ofNat k) : UInt8)) := by
  rw [lit_n8 k h]; exact declt_n8 a _
theorem declt_lit_n8 (a : UInt8) (k : Nat) (h : k < 256) : decide ((no_index (OfNat.ofNat k) : Int) < ((n8 a : Nat) : Int)) = decide ((no_index (OfNat.ofNat k) : UInt8) < a) := by
  rw [lit_n8 k h]; exact declt_n8 _ a
theorem decle_n8_lit (a : UInt8) (k : Nat) (h : k < 256) : decide (((n8 a : Nat) : Int) ≤ (no_index (OfNat.ofNat k) : Int)) = decide (a ≤ (no_index (OfNat.ofNat k) : UInt8)) := by
  rw [lit_n8 k h]; exact decle_n8 a _
theorem decle_lit_n8 (a : UInt8) (k : Nat) (h : k < 256) : decide ((no_index (OfNat.ofNat k) : Int) ≤ ((n8 a : Nat) : Int)) = decide ((no_index (OfNat.ofNat k) : UInt8) ≤ a) := by
  rw [lit_n8 k h]; exact decle_n8 _ a

def n16 (x : UInt16) : Nat := x.toNat
theorem n16_lt (x : UInt16) : n16 x < 65536 := x.toNat_lt
theorem n16_inj (a b : UInt16) : n16 a = n16 b ↔ a = b := ⟨fun h => UInt16.toNat_inj.1 h, fun h => h ▸ rfl⟩
theorem n16_lit (k : Nat) (h : k < 65536) : (k : Int) = ((n16 (UInt16.ofNat k) : Nat) : Int) := by simp [n16, Nat.mod_eq_of_lt h]
theorem ofInt_n16 (x : UInt16) : BitVec.ofInt 16 ((n16 x : Nat) : Int) = x.toBitVec := by simp [n16, BitVec.ofInt_natCast]
theorem ofInt_lit16 (k : Nat) : BitVec.ofInt 16 (OfNat.ofNat k : Int) = (OfNat.ofNat k : UInt16).toBitVec := BitVec.ofInt_natCast 16 k
theorem wrap_n16 (x : Int) : IntKind.u16.wrap x = ((n16 (UInt16.ofBitVec (BitVec.ofInt 16 x)) : Nat) : Int) := by
  simp only [n16, IntKind.wrap, IntKind.bits, IntKind.signed, Bool.false_and, Bool.false_eq_true, if_false]
  show _ = (((BitVec.ofInt 16 x).toNat : Nat) : Int)
  rw [BitVec.toNat_ofInt]; omega
theorem bits_and_n16 (a b : UInt16) : bits .and .u16 ((n16 a : Nat) : Int) ((n16 b : Nat) : Int) = ((n16 (a &&& b) : Nat) : Int) := by
  show IntKind.u16.wrap (((BitVec.ofInt 16 ((n16 a : Nat) : Int) &&& BitVec.ofInt 16 ((n16 b : Nat) : Int)).toNat : Nat) : Int) = _
  rw [ofInt_n16, ofInt_n16, wrap_n16, BitVec.ofInt_natCast, BitVec.ofNat_toNat, BitVec.setWidth_eq]; rfl
theorem bits_and_n16_lit (a : UInt16) (k : Nat) : bits .and .u16 ((n16 a : Nat) : Int) (no_index (OfNat.ofNat k) : Int) = ((n16 (a &&& (no_index (OfNat.ofNat k) : UInt16)) : Nat) : Int) := by
  show IntKind.u16.wrap (((BitVec.ofInt 16 ((n16 a : Nat) : Int) &&& BitVec.ofInt 16 (no_index (OfNat.ofNat k) : Int)).toNat : Nat) : Int) = _
  rw [ofInt_n16, ofInt_lit16, wrap_n16, BitVec.ofInt_natCast, BitVec.ofNat_toNat, BitVec.setWidth_eq]; rfl
theorem bits_and_lit_n16 (b : UInt16) (k : Nat) : bits .and .u16 (no_index (OfNat.ofNat k) : Int) ((n16 b : Nat) : Int) = ((n16 ((no_index (OfNat.ofNat k) : UInt16) &&& b) : Nat) : Int) := by
  show IntKind.u16.wrap (((BitVec.ofInt 16 (no_index (OfNat.ofNat k) : Int) &&& BitVec.ofInt 16 ((n16 b : Nat) : Int)).toNat : Nat) : Int) = _
  rw [ofInt_lit16, ofInt_n16, wrap_n16, BitVec.ofInt_natCast, BitVec.ofNat_toNat, BitVec.setWidth_eq]; rfl
theorem bits_or_n16 (a b : UInt16) : bits .or .u16 ((n16 a : Nat) : Int) ((n16 b : Nat) : Int) = ((n16 (a ||| b) : Nat) : Int) := by
  show IntKind.u16.wrap (((BitVec.ofInt 16 ((n16 a : Nat) : Int) ||| BitVec.ofInt 16 ((n16 b : Nat) : Int)).toNat : Nat) : Int) = _
  rw [ofInt_n16, ofInt_n16, wrap_n16, BitVec.ofInt_natCast, BitVec.ofNat_toNat, BitVec.setWidth_eq]; rfl
theorem bits_or_n16_lit (a : UInt16) (k : Nat) : bits .or .u16 ((n16 a : Nat) : Int) (no_index (OfNat.ofNat k) : Int) = ((n16 (a ||| (no_index (OfNat.ofNat k) : UInt16)) : Nat) : Int) := by
  show IntKind.u16.wrap (((BitVec.ofInt 16 ((n16 a : Nat) : Int) ||| BitVec.ofInt 16 (no_index (OfNat.ofNat k) : Int)).toNat : Nat) : Int) = _
  rw [ofInt_n16, ofInt_lit16, wrap_n16, BitVec.ofInt_natCast, BitVec.ofNat_toNat, BitVec.setWidth_eq]; rfl
theorem bits_or_lit_n16 (b : UInt16) (k : Nat) : bits .or .u16 (no_index (OfNat.ofNat k) : Int) ((n16 b : Nat) : Int) = ((n16 ((no_index (OfNat.ofNat k) : UInt16) ||| b) : Nat) : Int) := by
  show IntKind.u16.wrap (((BitVec.ofInt 16 (no_index (OfNat.ofNat k) : Int) ||| BitVec.ofInt 16 ((n16 b : Nat) : Int)).toNat : Nat) : Int) = _
  rw [ofInt_lit16, ofInt_n16, wrap_n16, BitVec.ofInt_natCast, BitVec.ofNat_toNat, BitVec.setWidth_eq]; rfl
theorem bits_xor_n16 (a b : UInt16) : bits .xor .u16 ((n16 a : Nat) : Int) ((n16 b : Nat) : Int) = ((n16 (a ^^^ b) : Nat) : Int) := by
  show IntKind.u16.wrap (((BitVec.ofInt 16 ((n16 a : Nat) : Int) ^^^ BitVec.ofInt 16 ((n16 b : Nat) : Int)).toNat : Nat) : Int) = _
  rw [ofInt_n16, ofInt_n16, wrap_n16, BitVec.ofInt_natCast, BitVec.ofNat_toNat, BitVec.setWidth_eq]; rfl
theorem bits_xor_n16_lit (a : UInt16) (k : Nat) : bits .xor .u16 ((n16 a : Nat) : Int) (no_index (OfNat.ofNat k) : Int) = ((n16 (a ^^^ (no_index (OfNat.ofNat k) : UInt16)) : Nat) : Int) := by
  show IntKind.u16.wrap (((BitVec.ofInt 16 ((n16 a : Nat) : Int) ^^^ BitVec.ofInt 16 (no_index (OfNat.ofNat k) : Int)).toNat : Nat) : Int) = _
  rw [ofInt_n16, ofInt_lit16, wrap_n16, BitVec.ofInt_natCast, BitVec.ofNat_toNat, BitVec.setWidth_eq]; rfl
theorem bits_xor_lit_n16 (b : UInt16) (k : Nat) : bits .xor .u16 (no_index (OfNat.ofNat k) : Int) ((n16 b : Nat) : Int) = ((n16 ((no_index (OfNat.ofNat k) : UInt16) ^^^ b) : Nat) : Int) := by
  show IntKind.u16.wrap (((BitVec.ofInt 16 (no_index (OfNat.ofNat k) : Int) ^^^ BitVec.ofInt 16 ((n16 b : Nat) : Int)).toNat : Nat) : Int) = _
  rw [ofInt_lit16, ofInt_n16, wrap_n16, BitVec.ofInt_natCast, BitVec.ofNat_toNat, BitVec.setWidth_eq]; rfl
theorem bits_andNot_n16 (a b : UInt16) : bits .andNot .u16 ((n16 a : Nat) : Int) ((n16 b : Nat) : Int) = ((n16 (a &&& ~~~b) : Nat) : Int) := by
  show IntKind.u16.wrap (((BitVec.ofInt 16 ((n16 a : Nat) : Int) &&& ~~~(BitVec.ofInt 16 ((n16 b : Nat) : Int))).toNat : Nat) : Int) = _
  rw [ofInt_n16, ofInt_n16, wrap_n16, BitVec.ofInt_natCast, BitVec.ofNat_toNat, BitVec.setWidth_eq]; rfl
theorem bits_andNot_n16_lit (a : UInt16) (k : Nat) : bits .andNot .u16 ((n16 a : Nat) : Int) (no_index (OfNat.ofNat k) : Int) = ((n16 (a &&& ~~~(no_index (OfNat.ofNat k) : UInt16)) : Nat) : Int) := by
  show IntKind.u16.wrap (((BitVec.ofInt 16 ((n16 a : Nat) : Int) &&& ~~~(BitVec.ofInt 16 (no_index (OfNat.ofNat k) : Int))).toNat : Nat) : Int) = _
  rw [ofInt_n16, ofInt_lit16, wrap_n16, BitVec.ofInt_natCast, BitVec.ofNat_toNat, BitVec.setWidth_eq]; rfl
theorem bits_andNot_lit_n16 (b : UInt16) (k : Nat) : bits .andNot .u16 (no_index (OfNat.ofNat k) : Int) ((n16 b : Nat) : Int) = ((n16 ((no_index (OfNat.ofNat k) : UInt16) &&& ~~~b) : Nat) : Int) := by
  show IntKind.u16.wrap (((BitVec.ofInt 16 (no_index (OfNat.ofNat k) : Int) &&& ~~~(BitVec.ofInt 16 ((n16 b : Nat) : Int))).toNat : Nat) : Int) = _
  rw [ofInt_lit16, ofInt_n16, wrap_n16, BitVec.ofInt_natCast, BitVec.ofNat_toNat, BitVec.setWidth_eq]; rfl
theorem wrap_add_n16 (a b : UInt16) : IntKind.u16.wrap (((n16 a : Nat) : Int) + ((n16 b : Nat) : Int)) = ((n16 (a + b) : Nat) : Int) := by
  rw [wrap_n16, BitVec.ofInt_add, ofInt_n16, ofInt_n16]; rfl
theorem wrap_add_n16_lit (a : UInt16) (k : Nat) : IntKind.u16.wrap (((n16 a : Nat) : Int) + (no_index (OfNat.ofNat k) : Int)) = ((n16 (a + (no_index (OfNat.ofNat k) : UInt16)) : Nat) : Int) := by
  rw [wrap_n16, BitVec.ofInt_add, ofInt_n16, ofInt_lit16]; rfl
theorem wrap_add_lit_n16 (b : UInt16) (k : Nat) : IntKind.u16.wrap ((no_index (OfNat.ofNat k) : Int) + ((n16 b : Nat) : Int)) = ((n16 ((no_index (OfNat.ofNat k) : UInt16) + b) : Nat) : Int) := by
  rw [wrap_n16, BitVec.ofInt_add, ofInt_lit16, ofInt_n16]; rfl
theorem wrap_sub_n16 (a b : UInt16) : IntKind.u16.wrap (((n16 a : Nat) : Int) - ((n16 b : Nat) : Int)) = ((n16 (a - b) : Nat) : Int) := by
  rw [wrap_n16, bv_ofInt_sub, ofInt_n16, ofInt_n16]; rfl
theorem wrap_sub_n16_lit (a : UInt16) (k : Nat) : IntKind.u16.wrap (((n16 a : Nat) : Int) - (no_index (OfNat.ofNat k) : Int)) = ((n16 (a - (no_index (OfNat.ofNat k) : UInt16)) : Nat) : Int) := by
  rw [wrap_n16, bv_ofInt_sub, ofInt_n16, ofInt_lit16]; rfl
theorem wrap_sub_lit_n16 (b : UInt16) (k : Nat) : IntKind.u16.wrap ((no_index (OfNat.ofNat k) : Int) - ((n16 b : Nat) : Int)) = ((n16 ((no_index (OfNat.ofNat k) : UInt16) - b) : Nat) : Int) := by
  rw [wrap_n16, bv_ofInt_sub, ofInt_lit16, ofInt_n16]; rfl
theorem wrap_mul_n16 (a b : UInt16) : IntKind.u16.wrap (((n16 a : Nat) : Int) * ((n16 b : Nat) : Int)) = ((n16 (a * b) : Nat) : Int) := by
  rw [wrap_n16, BitVec.ofInt_mul, ofInt_n16, ofInt_n16]; rfl
theorem wrap_mul_n16_lit (a : UInt16) (k : Nat) : IntKind.u16.wrap (((n16 a : Nat) : Int) * (no_index (OfNat.ofNat k) : Int)) = ((n16 (a * (no_index (OfNat.ofNat k) : UInt16)) : Nat) : Int) := by
  rw [wrap_n16, BitVec.ofInt_mul, ofInt_n16, ofInt_lit16]; rfl
theorem wrap_mul_lit_n16 (b : UInt16) (k : Nat) : IntKind.u16.wrap ((no_index (OfNat.ofNat k) : Int) * ((n16 b : Nat) : Int)) = ((n16 ((no_index (OfNat.ofNat k) : UInt16) * b) : Nat) : Int) := by
  rw [wrap_n16, BitVec.ofInt_mul, ofInt_lit16, ofInt_n16]; rfl
theorem wrap_neg_n16 (a : UInt16) : IntKind.u16.wrap (-((n16 a : Nat) : Int)) = ((n16 (-a) : Nat) : Int) := by
  rw [wrap_n16, BitVec.ofInt_neg, ofInt_n16]; rfl
theorem shl_n16_lit (a : UInt16) (yk : IntKind) (k : Nat) (h : k < 16) : Op.shift .shl .u16 ((n16 a : Nat) : Int) yk (no_index (OfNat.ofNat k) : Int) = pure (.int .u16 ((n16 (a <<< (no_index (OfNat.ofNat k) : UInt16)) : Nat) : Int)) := by
  show Op.shift .shl .u16 ((n16 a : Nat) : Int) yk ((k : Nat) : Int) = _
  rw [shift_shl_any _ _ _ _ (Int.natCast_nonneg k)]
  show pure (Value.int _ (IntKind.u16.wrap (((n16 a : Nat) : Int) * 2 ^ min k 16))) = _
  rw [Nat.min_eq_left (by omega), wrap_n16]
  congr 3
  show (BitVec.ofInt 16 (((n16 a : Nat) : Int) * 2 ^ k)).toNat = (a <<< (no_index (OfNat.ofNat k) : UInt16)).toNat
  rw [UInt16.toNat_shiftLeft]
  have e : (((n16 a : Nat) : Int) * 2 ^ k : Int) = ((n16 a * 2 ^ k : Nat) : Int) := by push_cast; rfl
  have e2 : (OfNat.ofNat k : UInt16).toNat = k % 65536 := UInt16.toNat_ofNat
  rw [e, BitVec.ofInt_natCast, BitVec.toNat_ofNat, e2, Nat.shiftLeft_eq, Nat.mod_eq_of_lt (a := k) (b := 65536) (by omega), Nat.mod_eq_of_lt (a := k) (b := 16) h]; rfl
theorem shr_n16_lit (a : UInt16) (yk : IntKind) (k : Nat) (h : k < 16) : Op.shift .shr .u16 ((n16 a : Nat) : Int) yk (no_index (OfNat.ofNat k) : Int) = pure (.int .u16 ((n16 (a >>> (no_index (OfNat.ofNat k) : UInt16)) : Nat) : Int)) := by
  show Op.shift .shr .u16 ((n16 a : Nat) : Int) yk ((k : Nat) : Int) = _
  rw [shift_shr_any _ _ _ _ (Int.natCast_nonneg k)]
  show pure (Value.int _ (((n16 a : Nat) : Int) / 2 ^ min k 16)) = _
  rw [Nat.min_eq_left (by omega)]
  have e : (((n16 a : Nat) : Int) / 2 ^ k : Int) = ((n16 a / 2 ^ k : Nat) : Int) := by push_cast; rfl
  have e2 : (OfNat.ofNat k : UInt16).toNat = k % 65536 := UInt16.toNat_ofNat
  rw [e]; congr 2; congr 1
  show a.toNat / 2 ^ k = (a >>> (no_index (OfNat.ofNat k) : UInt16)).toNat
  rw [UInt16.toNat_shiftRight, e2, Nat.shiftRight_eq_div_pow, Nat.mod_eq_of_lt (a := k) (b := 65536) (by omega), Nat.mod_eq_of_lt (a := k) (b := 16) h]
def shl16 (a : UInt16) (j : Nat) : UInt16 := UInt16.ofNat (a.toNat * 2 ^ min j 16)
def shr16 (a : UInt16) (j : Nat) : UInt16 := UInt16.ofNat (a.toNat / 2 ^ min j 16)
theorem shl_n16_nat (a : UInt16) (yk : IntKind) (j : Nat) : Op.shift .shl .u16 ((n16 a : Nat) : Int) yk (j : Int) = pure (.int .u16 ((n16 (shl16 a j) : Nat) : Int)) := by
  rw [shift_shl_any _ _ _ _ (Int.natCast_nonneg j)]
  show pure (Value.int _ (IntKind.u16.wrap (((n16 a : Nat) : Int) * 2 ^ min j 16))) = _
  have e : (((n16 a : Nat) : Int) * 2 ^ min j 16 : Int) = ((n16 a * 2 ^ min j 16 : Nat) : Int) := by push_cast; rfl
  rw [wrap_n16, e, BitVec.ofInt_natCast]; rfl
theorem shr_n16_nat (a : UInt16) (yk : IntKind) (j : Nat) : Op.shift .shr .u16 ((n16 a : Nat) : Int) yk (j : Int) = pure (.int .u16 ((n16 (shr16 a j) : Nat) : Int)) := by
  rw [shift_shr_any _ _ _ _ (Int.natCast_nonneg j)]
  show pure (Value.int _ (((n16 a : Nat) : Int) / 2 ^ min j 16)) = _
  have e : (((n16 a : Nat) : Int) / 2 ^ min j 16 : Int) = ((n16 a / 2 ^ min j 16 : Nat) : Int) := by push_cast; rfl
  have hl : n16 a / 2 ^ min j 16 < 65536 := Nat.lt_of_le_of_lt (Nat.div_le_self _ _) (n16_lt a)
  rw [e]; congr 2; congr 1
  show n16 a / 2 ^ min j 16 = (UInt16.ofNat (a.toNat / 2 ^ min j 16)).toNat
  rw [UInt16.toNat_ofNat']; exact (Nat.mod_eq_of_lt hl).symm
theorem beq_n16 (a b : UInt16) : (((n16 a : Nat) : Int) == ((n16 b : Nat) : Int)) = (a == b) := by
  rw [Bool.eq_iff_iff, beq_iff_eq, beq_iff_eq, Int.ofNat_inj]; exact n16_inj a b
theorem bne_n16 (a b : UInt16) : (((n16 a : Nat) : Int) != ((n16 b : Nat) : Int)) = (a != b) := by
  show (!(((n16 a : Nat) : Int) == ((n16 b : Nat) : Int))) = !(a == b)
  rw [beq_n16]
theorem declt_n16 (a b : UInt16) : decide (((n16 a : Nat) : Int) < ((n16 b : Nat) : Int)) = decide (a < b) := by
  apply decide_eq_decide.2; rw [UInt16.lt_iff_toNat_lt]; exact Int.ofNat_lt
theorem decle_n16 (a b : UInt16) : decide (((n16 a : Nat) : Int) ≤ ((n16 b : Nat) : Int)) = decide (a ≤ b) := by
  apply decide_eq_decide.2; rw [UInt16.le_iff_toNat_le]; exact Int.ofNat_le
theorem lit_n16 (k : Nat) (h : k < 65536) : (OfNat.ofNat k : Int) = ((n16 (OfNat.ofNat k : UInt16) : Nat) : Int) := n16_lit k h
theorem beq_n16_lit (a : UInt16) (k : Nat) (h : k < 65536) : (((n16 a : Nat) : Int) == (no_index (OfNat.ofNat k) : Int)) = (a == (no_index (OfNat.ofNat k) : UInt16)) := by
  rw [lit_n16 k h]; exact beq_n16 a _
theorem bne_n16_lit (a : UInt16) (k : Nat) (h : k < 65536) : (((n16 a : Nat) : Int) != (no_index (OfNat.ofNat k) : Int)) = (a != (no_index (OfNat.ofNat k) : UInt16)) := by
  rw [lit_n16 k h]; exact bne_n16 a _
theorem declt_n16_lit (a : UInt16) (k : Nat) (h : k < 65536) : decide (((n16 a : Nat) : Int) < (no_index (OfNat.ofNat k) : Int)) = decide (a < (no_index (OfNat.ofNat k) : UInt16)) := by
  rw [lit_n16 k h]; exact declt_n16 a _
theorem declt_lit_n16 (a : UInt16) (k : Nat) (h : k < 65536) : decide ((no_index (OfNat.ofNat k) : Int) < ((n16 a : Nat) : Int)) = decide ((no_index (OfNat.ofNat k) : UInt16) < a) := by
  rw [lit_n16 k h]; exact declt_n16 _ a
theorem decle_n16_lit (a : UInt16) (k : Nat) (h : k < 65536) : decide (((n16 a : Nat) : Int) ≤ (no_index (OfNat.ofNat k) : Int)) = decide (a ≤ (no_index (OfNat.ofNat k) : UInt16)) := by
  rw [lit_n16 k h]; exact decle_n16 a _
theorem decle_lit_n16 (a : UInt16) (k : Nat) (h : k < 65536) : decide ((no_index (OfNat.ofNat k) : Int) ≤ ((n16 a : Nat) : Int)) = decide ((no_index (OfNat.ofNat k) : UInt16) ≤ a) := by
  rw [lit_n16 k h]; exact decle_n16 _ a

def n32 (x : UInt32) : Nat := x.toNat
theorem n32_lt (x : UInt32) : n32 x < 4294967296 := x.toNat_lt
theorem n32_inj (a b : UInt32) : n32 a = n32 b ↔ a = b := ⟨fun h => UInt32.toNat_inj.1 h, fun h => h ▸ rfl⟩
theorem n32_lit (k : Nat) (h : k < 4294967296) : (k : Int) = ((n32 (UInt32.ofNat k) : Nat) : Int) := by simp [n32, Nat.mod_eq_of_lt h]
theorem ofInt_n32 (x : UInt32) : BitVec.ofInt 32 ((n32 x : Nat) : Int) = x.toBitVec := by simp [n32, BitVec.ofInt_natCast]
theorem ofInt_lit32 (k : Nat) : BitVec.ofInt 32 (OfNat.ofNat k : Int) = (OfNat.ofNat k : UInt32).toBitVec := BitVec.ofInt_natCast 32 k
theorem wrap_n32 (x : Int) : IntKind.u32.wrap x = ((n32 (UInt32.ofBitVec (BitVec.ofInt 32 x)) : Nat) : Int) := by
  simp only [n32, IntKind.wrap, IntKind.bits, IntKind.signed, Bool.false_and, Bool.false_eq_true, if_false]
  show _ = (((BitVec.ofInt 32 x).toNat : Nat) : Int)
  rw [BitVec.toNat_ofInt]; omega
theorem bits_and_n32 (a b : UInt32) : bits .and .u32 ((n32 a : Nat) : Int) ((n32 b : Nat) : Int) = ((n32 (a &&& b) : Nat) : Int) := by
  show IntKind.u32.wrap (((BitVec.ofInt 32 ((n32 a : Nat) : Int) &&& BitVec.ofInt 32 ((n32 b : Nat) : Int)).toNat : Nat) : Int) = _
  rw [ofInt_n32, ofInt_n32, wrap_n32, BitVec.ofInt_natCast, BitVec.ofNat_toNat, BitVec.setWidth_eq]; rfl
theorem bits_and_n32_lit (a : UInt32) (k : Nat) : bits .and .u32 ((n32 a : Nat) : Int) (no_index (OfNat.ofNat k) : Int) = ((n32 (a &&& (no_index (OfNat.ofNat k) : UInt32)) : Nat) : Int) := by
  show IntKind.u32.wrap (((BitVec.ofInt 32 ((n32 a : Nat) : Int) &&& BitVec.ofInt 32 (no_index (OfNat.ofNat k) : Int)).toNat : Nat) : Int) = _
  rw [ofInt_n32, ofInt_lit32, wrap_n32, BitVec.ofInt_natCast, BitVec.ofNat_toNat, BitVec.setWidth_eq]; rfl
theorem bits_and_lit_n32 (b : UInt32) (k : Nat) : bits .and .u32 (no_index (OfNat.ofNat k) : Int) ((n32 b : Nat) : Int) = ((n32 ((no_index (OfNat.ofNat k) : UInt32) &&& b) : Nat) : Int) := by
  show IntKind.u32.wrap (((BitVec.ofInt 32 (no_index (OfNat.ofNat k) : Int) &&& BitVec.ofInt 32 ((n32 b : Nat) : Int)).toNat : Nat) : Int) = _
  rw [ofInt_lit32, ofInt_n32, wrap_n32, BitVec.ofInt_natCast, BitVec.ofNat_toNat, BitVec.setWidth_eq]; rfl
theorem bits_or_n32 (a b : UInt32) : bits .or .u32 ((n32 a : Nat) : Int) ((n32 b : Nat) : Int) = ((n32 (a ||| b) : Nat) : Int) := by
  show IntKind.u32.wrap (((BitVec.ofInt 32 ((n32 a : Nat) : Int) ||| BitVec.ofInt 32 ((n32 b : Nat) : Int)).toNat : Nat) : Int) = _
  rw [ofInt_n32, ofInt_n32, wrap_n32, BitVec.ofInt_natCast, BitVec.ofNat_toNat, BitVec.setWidth_eq]; rfl
theorem bits_or_n32_lit (a : UInt32) (k : Nat) : bits .or .u32 ((n32 a : Nat) : Int) (no_index (OfNat.ofNat k) : Int) = ((n32 (a ||| (no_index (OfNat.ofNat k) : UInt32)) : Nat) : Int) := by
  show IntKind.u32.wrap (((BitVec.ofInt 32 ((n32 a : Nat) : Int) ||| BitVec.ofInt 32 (no_index (OfNat.ofNat k) : Int)).toNat : Nat) : Int) = _
  rw [ofInt_n32, ofInt_lit32, wrap_n32, BitVec.ofInt_natCast, BitVec.ofNat_toNat, BitVec.setWidth_eq]; rfl
theorem bits_or_lit_n32 (b : UInt32) (k : Nat) : bits .or .u32 (no_index (OfNat.ofNat k) : Int) ((n32 b : Nat) : Int) = ((n32 ((no_index (OfNat.ofNat k) : UInt32) ||| b) : Nat) : Int) := by
  show IntKind.u32.wrap (((BitVec.ofInt 32 (no_index (OfNat.ofNat k) : Int) ||| BitVec.ofInt 32 ((n32 b : Nat) : Int)).toNat : Nat) : Int) = _
  rw [ofInt_lit32, ofInt_n32, wrap_n32, BitVec.ofInt_natCast, BitVec.ofNat_toNat, BitVec.setWidth_eq]; rfl
theorem bits_xor_n32 (a b : UInt32) : bits .xor .u32 ((n32 a : Nat) : Int) ((n32 b : Nat) : Int) = ((n32 (a ^^^ b) : Nat) : Int) := by
  show IntKind.u32.wrap (((BitVec.ofInt 32 ((n32 a : Nat) : Int) ^^^ BitVec.ofInt 32 ((n32 b : Nat) : Int)).toNat : Nat) : Int) = _
  rw [ofInt_n32, ofInt_n32, wrap_n32, BitVec.ofInt_natCast, BitVec.ofNat_toNat, BitVec.setWidth_eq]; rfl
theorem bits_xor_n32_lit (a : UInt32) (k : Nat) : bits .xor .u32 ((n32 a : Nat) : Int) (no_index (OfNat.ofNat k) : Int) = ((n32 (a ^^^ (no_index (OfNat.ofNat k) : UInt32)) : Nat) : Int) := by
  show IntKind.u32.wrap (((BitVec.ofInt 32 ((n32 a : Nat) : Int) ^^^ BitVec.ofInt 32 (no_index (OfNat.ofNat k) : Int)).toNat : Nat) : Int) = _
  rw [ofInt_n32, ofInt_lit32, wrap_n32, BitVec.ofInt_natCast, BitVec.ofNat_toNat, BitVec.setWidth_eq]; rfl
theorem bits_xor_lit_n32 (b : UInt32) (k : Nat) : bits .xor .u32 (no_index (OfNat.ofNat k) : Int) ((n32 b : Nat) : Int) = ((n32 ((no_index (OfNat.ofNat k) : UInt32) ^^^ b) : Nat) : Int) := by
  show IntKind.u32.wrap (((BitVec.ofInt 32 (no_index (OfNat.ofNat k) : Int) ^^^ BitVec.ofInt 32 ((n32 b : Nat) : Int)).toNat : Nat) : Int) = _
  rw [ofInt_lit32, ofInt_n32, wrap_n32, BitVec.ofInt_natCast, BitVec.ofNat_toNat, BitVec.setWidth_eq]; rfl
theorem bits_andNot_n32 (a b : UInt32) : bits .andNot .u32 ((n32 a : Nat) : Int) ((n32 b : Nat) : Int) = ((n32 (a &&& ~~~b) : Nat) : Int) := by
  show IntKind.u32.wrap (((BitVec.ofInt 32 ((n32 a : Nat) : Int) &&& ~~~(BitVec.ofInt 32 ((n32 b : Nat) : Int))).toNat : Nat) : Int) = _
  rw [ofInt_n32, ofInt_n32, wrap_n32, BitVec.ofInt_natCast, BitVec.ofNat_toNat, BitVec.setWidth_eq]; rfl
theorem bits_andNot_n32_lit (a : UInt32) (k : Nat) : bits .andNot .u32 ((n32 a : Nat) : Int) (no_index (OfNat.ofNat k) : Int) = ((n32 (a &&& ~~~(no_index (OfNat.ofNat k) : UInt32)) : Nat) : Int) := by
  show IntKind.u32.wrap (((BitVec.ofInt 32 ((n32 a : Nat) : Int) &&& ~~~(BitVec.ofInt 32 (no_index (OfNat.ofNat k) : Int))).toNat : Nat) : Int) = _
  rw [ofInt_n32, ofInt_lit32, wrap_n32, BitVec.ofInt_natCast, BitVec.ofNat_toNat, BitVec.setWidth_eq]; rfl
theorem bits_andNot_lit_n32 (b : UInt32) (k : Nat) : bits .andNot .u32 (no_index (OfNat.ofNat k) : Int) ((n32 b : Nat) : Int) = ((n32 ((no_index (OfNat.ofNat k) : UInt32) &&& ~~~b) : Nat) : Int) := by
  show IntKind.u32.wrap (((BitVec.ofInt 32 (no_index (OfNat.ofNat k) : Int) &&& ~~~(BitVec.ofInt 32 ((n32 b : Nat) : Int))).toNat : Nat) : Int) = _
  rw [ofInt_lit32, ofInt_n32, wrap_n32, BitVec.ofInt_natCast, BitVec.ofNat_toNat, BitVec.setWidth_eq]; rfl
theorem wrap_add_n32 (a b : UInt32) : IntKind.u32.wrap (((n32 a : Nat) : Int) + ((n32 b : Nat) : Int)) = ((n32 (a + b) : Nat) : Int) := by
  rw [wrap_n32, BitVec.ofInt_add, ofInt_n32, ofInt_n32]; rfl
theorem wrap_add_n32_lit (a : UInt32) (k : Nat) : IntKind.u32.wrap (((n32 a : Nat) : Int) + (no_index (OfNat.ofNat k) : Int)) = ((n32 (a + (no_index (OfNat.ofNat k) : UInt32)) : Nat) : Int) := by
  rw [wrap_n32, BitVec.ofInt_add, ofInt_n32, ofInt_lit32]; rfl
theorem wrap_add_lit_n32 (b : UInt32) (k : Nat) : IntKind.u32.wrap ((no_index (OfNat.ofNat k) : Int) + ((n32 b : Nat) : Int)) = ((n32 ((no_index (OfNat.ofNat k) : UInt32) + b) : Nat) : Int) := by
  rw [wrap_n32, BitVec.ofInt_add, ofInt_lit32, ofInt_n32]; rfl
theorem wrap_sub_n32 (a b : UInt32) : IntKind.u32.wrap (((n32 a : Nat) : Int) - ((n32 b : Nat) : Int)) = ((n32 (a - b) : Nat) : Int) := by
  rw [wrap_n32, bv_ofInt_sub, ofInt_n32, ofInt_n32]; rfl
theorem wrap_sub_n32_lit (a : UInt32) (k : Nat) : IntKind.u32.wrap (((n32 a : Nat) : Int) - (no_index (OfNat.ofNat k) : Int)) = ((n32 (a - (no_index (OfNat.ofNat k) : UInt32)) : Nat) : Int) := by
  rw [wrap_n32, bv_ofInt_sub, ofInt_n32, ofInt_lit32]; rfl
theorem wrap_sub_lit_n32 (b : UInt32) (k : Nat) : IntKind.u32.wrap ((no_index (OfNat.ofNat k) : Int) - ((n32 b : Nat) : Int)) = ((n32 ((no_index (OfNat.ofNat k) : UInt32) - b) : Nat) : Int) := by
  rw [wrap_n32, bv_ofInt_sub, ofInt_lit32, ofInt_n32]; rfl
theorem wrap_mul_n32 (a b : UInt32) : IntKind.u32.wrap (((n32 a : Nat) : Int) * ((n32 b : Nat) : Int)) = ((n32 (a * b) : Nat) : Int) := by
  rw [wrap_n32, BitVec.ofInt_mul, ofInt_n32, ofInt_n32]; rfl
theorem wrap_mul_n32_lit (a : UInt32) (k : Nat) : IntKind.u32.wrap (((n32 a : Nat) : Int) * (no_index (OfNat.ofNat k) : Int)) = ((n32 (a * (no_index (OfNat.ofNat k) : UInt32)) : Nat) : Int) := by
  rw [wrap_n32, BitVec.ofInt_mul, ofInt_n32, ofInt_lit32]; rfl
theorem wrap_mul_lit_n32 (b : UInt32) (k : Nat) : IntKind.u32.wrap ((no_index (OfNat.ofNat k) : Int) * ((n32 b : Nat) : Int)) = ((n32 ((no_index (OfNat.ofNat k) : UInt32) * b) : Nat) : Int) := by
  rw [wrap_n32, BitVec.ofInt_mul, ofInt_lit32, ofInt_n32]; rfl
theorem wrap_neg_n32 (a : UInt32) : IntKind.u32.wrap (-((n32 a : Nat) : Int)) = ((n32 (-a) : Nat) : Int) := by
  rw [wrap_n32, BitVec.ofInt_neg, ofInt_n32]; rfl
theorem shl_n32_lit (a : UInt32) (yk : IntKind) (k : Nat) (h : k < 32) : Op.shift .shl .u32 ((n32 a : Nat) : Int) yk (no_index (OfNat.ofNat k) : Int) = pure (.int .u32 ((n32 (a <<< (no_index (OfNat.ofNat k) : UInt32)) : Nat) : Int)) := by
  show Op.shift .shl .u32 ((n32 a : Nat) : Int) yk ((k : Nat) : Int) = _
  rw [shift_shl_any _ _ _ _ (Int.natCast_nonneg k)]
  show pure (Value.int _ (IntKind.u32.wrap (((n32 a : Nat) : Int) * 2 ^ min k 32))) = _
  rw [Nat.min_eq_left (by omega), wrap_n32]
  congr 3
  show (BitVec.ofInt 32 (((n32 a : Nat) : Int) * 2 ^ k)).toNat = (a <<< (no_index (OfNat.ofNat k) : UInt32)).toNat
  rw [UInt32.toNat_shiftLeft]
  have e : (((n32 a : Nat) : Int) * 2 ^ k : Int) = ((n32 a * 2 ^ k : Nat) : Int) := by push_cast; rfl
  have e2 : (OfNat.ofNat k : UInt32).toNat = k % 4294967296 := UInt32.toNat_ofNat
  rw [e, BitVec.ofInt_natCast, BitVec.toNat_ofNat, e2, Nat.shiftLeft_eq, Nat.mod_eq_of_lt (a := k) (b := 4294967296) (by omega), Nat.mod_eq_of_lt (a := k) (b := 32) h]; rfl
theorem shr_n32_lit (a : UInt32) (yk : IntKind) (k : Nat) (h : k < 32) : Op.shift .shr .u32 ((n32 a : Nat) : Int) yk (no_index (OfNat.ofNat k) : Int) = pure (.int .u32 ((n32 (a >>> (no_index (OfNat.ofNat k) : UInt32)) : Nat) : Int)) := by
  show Op.shift .shr .u32 ((n32 a : Nat) : Int) yk ((k : Nat) : Int) = _
  rw [shift_shr_any _ _ _ _ (Int.natCast_nonneg k)]
  show pure (Value.int _ (((n32 a : Nat) : Int) / 2 ^ min k 32)) = _
  rw [Nat.min_eq_left (by omega)]
  have e : (((n32 a : Nat) : Int) / 2 ^ k : Int) = ((n32 a / 2 ^ k : Nat) : Int) := by push_cast; rfl
  have e2 : (OfNat.ofNat k : UInt32).toNat = k % 4294967296 := UInt32.toNat_ofNat
  rw [e]; congr 2; congr 1
  show a.toNat / 2 ^ k = (a >>> (no_index (OfNat.ofNat k) : UInt32)).toNat
  rw [UInt32.toNat_shiftRight, e2, Nat.shiftRight_eq_div_pow, Nat.mod_eq_of_lt (a := k) (b := 4294967296) (by omega), Nat.mod_eq_of_lt (a := k) (b := 32) h]
def shl32 (a : UInt32) (j : Nat) : UInt32 := UInt32.ofNat (a.toNat * 2 ^ min j 32)
def shr32 (a : UInt32) (j : Nat) : UInt32 := UInt32.ofNat (a.toNat / 2 ^ min j 32)
theorem shl_n32_nat (a : UInt32) (yk : IntKind) (j : Nat) : Op.shift .shl .u32 ((n32 a : Nat) : Int) yk (j : Int) = pure (.int .u32 ((n32 (shl32 a j) : Nat) : Int)) := by
  rw [shift_shl_any _ _ _ _ (Int.natCast_nonneg j)]
  show pure (Value.int _ (IntKind.u32.wrap (((n32 a : Nat) : Int) * 2 ^ min j 32))) = _
  have e : (((n32 a : Nat) : Int) * 2 ^ min j 32 : Int) = ((n32 a * 2 ^ min j 32 : Nat) : Int) := by push_cast; rfl
  rw [wrap_n32, e, BitVec.ofInt_natCast]; rfl
theorem shr_n32_nat (a : UInt32) (yk : IntKind) (j : Nat) : Op.shift .shr .u32 ((n32 a : Nat) : Int) yk (j : Int) = pure (.int .u32 ((n32 (shr32 a j) : Nat) : Int)) := by
  rw [shift_shr_any _ _ _ _ (Int.natCast_nonneg j)]
  show pure (Value.int _ (((n32 a : Nat) : Int) / 2 ^ min j 32)) = _
  have e : (((n32 a : Nat) : Int) / 2 ^ min j 32 : Int) = ((n32 a / 2 ^ min j 32 : Nat) : Int) := by push_cast; rfl
  have hl : n32 a / 2 ^ min j 32 < 4294967296 := Nat.lt_of_le_of_lt (Nat.div_le_self _ _) (n32_lt a)
  rw [e]; congr 2; congr 1
  show n32 a / 2 ^ min j 32 = (UInt32.ofNat (a.toNat / 2 ^ min j 32)).toNat
  rw [UInt32.toNat_ofNat']; exact (Nat.mod_eq_of_lt hl).symm
theorem beq_n32 (a b : UInt32) : (((n32 a : Nat) : Int) == ((n32 b : Nat) : Int)) = (a == b) := by
  rw [Bool.eq_iff_iff, beq_iff_eq, beq_iff_eq, Int.ofNat_inj]; exact n32_inj a b
theorem bne_n32 (a b : UInt32) : (((n32 a : Nat) : Int) != ((n32 b : Nat) : Int)) = (a != b) := by
  show (!(((n32 a : Nat) : Int) == ((n32 b : Nat) : Int))) = !(a == b)
  rw [beq_n32]
theorem declt_n32 (a b : UInt32) : decide (((n32 a : Nat) : Int) < ((n32 b : Nat) : Int)) = decide (a < b) := by
  apply decide_eq_decide.2; rw [UInt32.lt_iff_toNat_lt]; exact Int.ofNat_lt
theorem decle_n32 (a b : UInt32) : decide (((n32 a : Nat) : Int) ≤ ((n32 b : Nat) : Int)) = decide (a ≤ b) := by
  apply decide_eq_decide.2; rw [UInt32.le_iff_toNat_le]; exact Int.ofNat_le
theorem lit_n32 (k : Nat) (h : k < 4294967296) : (OfNat.ofNat k : Int) = ((n32 (OfNat.ofNat k : UInt32) : Nat) : Int) := n32_lit k h
theorem beq_n32_lit (a : UInt32) (k : Nat) (h : k < 4294967296) : (((n32 a : Nat) : Int) == (no_index (OfNat.ofNat k) : Int)) = (a == (no_index (OfNat.ofNat k) : UInt32)) := by
  rw [lit_n32 k h]; exact beq_n32 a _
theorem bne_n32_lit (a : UInt32) (k : Nat) (h : k < 4294967296) : (((n32 a : Nat) : Int) != (no_index (OfNat.ofNat k) : Int)) = (a != (no_index (OfNat.ofNat k) : UInt32)) := by
  rw [lit_n32 k h]; exact bne_n32 a _
theorem declt_n32_lit (a : UInt32) (k : Nat) (h : k < 4294967296) : decide (((n32 a : Nat) : Int) < (no_index (OfNat.ofNat k) : Int)) = decide (a < (no_index (OfNat.ofNat k) : UInt32)) := by
  rw [lit_n32 k h]; exact declt_n32 a _
theorem declt_lit_n32 (a : UInt32) (k : Nat) (h : k < 4294967296) : decide ((no_index (OfNat.ofNat k) : Int) < ((n32 a : Nat) : Int)) = decide ((no_index (OfNat.ofNat k) : UInt32) < a) := by
  rw [lit_n32 k h]; exact declt_n32 _ a
theorem decle_n32_lit (a : UInt32) (k : Nat) (h : k < 4294967296) : decide (((n32 a : Nat) : Int) ≤ (no_index (OfNat.ofNat k) : Int)) = decide (a ≤ (no_index (OfNat.ofNat k) : UInt32)) := by
  rw [lit_n32 k h]; exact decle_n32 a _
theorem decle_lit_n32 (a : UInt32) (k : Nat) (h : k < 4294967296) : decide ((no_index (OfNat.ofNat k) : Int) ≤ ((n32 a : Nat) : Int)) = decide ((no_index (OfNat.ofNat k) : UInt32) ≤ a) := by
  rw [lit_n32 k h]; exact decle_n32 _ a

def n64 (x : UInt64) : Nat := x.toNat
theorem n64_lt (x : UInt64) : n64 x < 18446744073709551616 := x.toNat_lt
theorem n64_inj (a b : UInt64) : n64 a = n64 b ↔ a = b := ⟨fun h => UInt64.toNat_inj.1 h, fun h => h ▸ rfl⟩
theorem n64_lit (k : Nat) (h : k < 18446744073709551616) : (k : Int) = ((n64 (UInt64.ofNat k) : Nat) : Int) := by simp [n64, Nat.mod_eq_of_lt h]
theorem ofInt_n64 (x : UInt64) : BitVec.ofInt 64 ((n64 x : Nat) : Int) = x.toBitVec := by simp [n64, BitVec.ofInt_natCast]
theorem ofInt_lit64 (k : Nat) : BitVec.ofInt 64 (OfNat.ofNat k : Int) = (OfNat.ofNat k : UInt64).toBitVec := BitVec.ofInt_natCast 64 k
theorem wrap_n64 (x : Int) : IntKind.u64.wrap x = ((n64 (UInt64.ofBitVec (BitVec.ofInt 64 x)) : Nat) : Int) := by
  simp only [n64, IntKind.wrap, IntKind.bits, IntKind.signed, Bool.false_and, Bool.false_eq_true, if_false]
  show _ = (((BitVec.ofInt 64 x).toNat : Nat) : Int)
  rw [BitVec.toNat_ofInt]; omega
theorem bits_and_n64 (a b : UInt64) : bits .and .u64 ((n64 a : Nat) : Int) ((n64 b : Nat) : Int) = ((n64 (a &&& b) : Nat) : Int) := by
  show IntKind.u64.wrap (((BitVec.ofInt 64 ((n64 a : Nat) : Int) &&& BitVec.ofInt 64 ((n64 b : Nat) : Int)).toNat : Nat) : Int) = _
  rw [ofInt_n64, ofInt_n64, wrap_n64, BitVec.ofInt_natCast, BitVec.ofNat_toNat, BitVec.setWidth_eq]; rfl
theorem bits_and_n64_lit (a : UInt64) (k : Nat) : bits .and .u64 ((n64 a : Nat) : Int) (no_index (OfNat.ofNat k) : Int) = ((n64 (a &&& (no_index (OfNat.ofNat k) : UInt64)) : Nat) : Int) := by
  show IntKind.u64.wrap (((BitVec.ofInt 64 ((n64 a : Nat) : Int) &&& BitVec.ofInt 64 (no_index (OfNat.ofNat k) : Int)).toNat : Nat) : Int) = _
  rw [ofInt_n64, ofInt_lit64, wrap_n64, BitVec.ofInt_natCast, BitVec.ofNat_toNat, BitVec.setWidth_eq]; rfl
theorem bits_and_lit_n64 (b : UInt64) (k : Nat) : bits .and .u64 (no_index (OfNat.ofNat k) : Int) ((n64 b : Nat) : Int) = ((n64 ((no_index (OfNat.ofNat k) : UInt64) &&& b) : Nat) : Int) := by
  show IntKind.u64.wrap (((BitVec.ofInt 64 (no_index (OfNat.ofNat k) : Int) &&& BitVec.ofInt 64 ((n64 b : Nat) : Int)).toNat : Nat) : Int) = _
  rw [ofInt_lit64, ofInt_n64, wrap_n64, BitVec.ofInt_natCast, BitVec.ofNat_toNat, BitVec.setWidth_eq]; rfl
theorem bits_or_n64 (a b : UInt64) : bits .or .u64 ((n64 a : Nat) : Int) ((n64 b : Nat) : Int) = ((n64 (a ||| b) : Nat) : Int) := by
  show IntKind.u64.wrap (((BitVec.ofInt 64 ((n64 a : Nat) : Int) ||| BitVec.ofInt 64 ((n64 b : Nat) : Int)).toNat : Nat) : Int) = _
  rw [ofInt_n64, ofInt_n64, wrap_n64, BitVec.ofInt_natCast, BitVec.ofNat_toNat, BitVec.setWidth_eq]; rfl
theorem bits_or_n64_lit (a : UInt64) (k : Nat) : bits .or .u64 ((n64 a : Nat) : Int) (no_index (OfNat.ofNat k) : Int) = ((n64 (a ||| (no_index (OfNat.ofNat k) : UInt64)) : Nat) : Int) := by
  show IntKind.u64.wrap (((BitVec.ofInt 64 ((n64 a : Nat) : Int) ||| BitVec.ofInt 64 (no_index (OfNat.ofNat k) : Int)).toNat : Nat) : Int) = _
  rw [ofInt_n64, ofInt_lit64, wrap_n64, BitVec.ofInt_natCast, BitVec.ofNat_toNat, BitVec.setWidth_eq]; rfl
theorem bits_or_lit_n64 (b : UInt64) (k : Nat) : bits .or .u64 (no_index (OfNat.ofNat k) : Int) ((n64 b : Nat) : Int) = ((n64 ((no_index (OfNat.ofNat k) : UInt64) ||| b) : Nat) : Int) := by
  show IntKind.u64.wrap (((BitVec.ofInt 64 (no_index (OfNat.ofNat k) : Int) ||| BitVec.ofInt 64 ((n64 b : Nat) : Int)).toNat : Nat) : Int) = _
  rw [ofInt_lit64, ofInt_n64, wrap_n64, BitVec.ofInt_natCast, BitVec.ofNat_toNat, BitVec.setWidth_eq]; rfl
theorem bits_xor_n64 (a b : UInt64) : bits .xor .u64 ((n64 a : Nat) : Int) ((n64 b : Nat) : Int) = ((n64 (a ^^^ b) : Nat) : Int) := by
  show IntKind.u64.wrap (((BitVec.ofInt 64 ((n64 a : Nat) : Int) ^^^ BitVec.ofInt 64 ((n64 b : Nat) : Int)).toNat : Nat) : Int) = _
  rw [ofInt_n64, ofInt_n64, wrap_n64, BitVec.ofInt_natCast, BitVec.ofNat_toNat, BitVec.setWidth_eq]; rfl
theorem bits_xor_n64_lit (a : UInt64) (k : Nat) : bits .xor .u64 ((n64 a : Nat) : Int) (no_index (OfNat.ofNat k) : Int) = ((n64 (a ^^^ (no_index (OfNat.ofNat k) : UInt64)) : Nat) : Int) := by
  show IntKind.u64.wrap (((BitVec.ofInt 64 ((n64 a : Nat) : Int) ^^^ BitVec.ofInt 64 (no_index (OfNat.ofNat k) : Int)).toNat : Nat) : Int) = _
  rw [ofInt_n64, ofInt_lit64, wrap_n64, BitVec.ofInt_natCast, BitVec.ofNat_toNat, BitVec.setWidth_eq]; rfl
theorem bits_xor_lit_n64 (b : UInt64) (k : Nat) : bits .xor .u64 (no_index (OfNat.ofNat k) : Int) ((n64 b : Nat) : Int) = ((n64 ((no_index (OfNat.ofNat k) : UInt64) ^^^ b) : Nat) : Int) := by
  show IntKind.u64.wrap (((BitVec.ofInt 64 (no_index (OfNat.ofNat k) : Int) ^^^ BitVec.ofInt 64 ((n64 b : Nat) : Int)).toNat : Nat) : Int) = _
  rw [ofInt_lit64, ofInt_n64, wrap_n64, BitVec.ofInt_natCast, BitVec.ofNat_toNat, BitVec.setWidth_eq]; rfl
theorem bits_andNot_n64 (a b : UInt64) : bits .andNot .u64 ((n64 a : Nat) : Int) ((n64 b : Nat) : Int) = ((n64 (a &&& ~~~b) : Nat) : Int) := by
  show IntKind.u64.wrap (((BitVec.ofInt 64 ((n64 a : Nat) : Int) &&& ~~~(BitVec.ofInt 64 ((n64 b : Nat) : Int))).toNat : Nat) : Int) = _
  rw [ofInt_n64, ofInt_n64, wrap_n64, BitVec.ofInt_natCast, BitVec.ofNat_toNat, BitVec.setWidth_eq]; rfl
theorem bits_andNot_n64_lit (a : UInt64) (k : Nat) : bits .andNot .u64 ((n64 a : Nat) : Int) (no_index (OfNat.ofNat k) : Int) = ((n64 (a &&& ~~~(no_index (OfNat.ofNat k) : UInt64)) : Nat) : Int) := by
  show IntKind.u64.wrap (((BitVec.ofInt 64 ((n64 a : Nat) : Int) &&& ~~~(BitVec.ofInt 64 (no_index (OfNat.ofNat k) : Int))).toNat : Nat) : Int) = _
  rw [ofInt_n64, ofInt_lit64, wrap_n64, BitVec.ofInt_natCast, BitVec.ofNat_toNat, BitVec.setWidth_eq]; rfl
theorem bits_andNot_lit_n64 (b : UInt64) (k : Nat) : bits .andNot .u64 (no_index (OfNat.ofNat k) : Int) ((n64 b : Nat) : Int) = ((n64 ((no_index (OfNat.ofNat k) : UInt64) &&& ~~~b) : Nat) : Int) := by
  show IntKind.u64.wrap (((BitVec.ofInt 64 (no_index (OfNat.ofNat k) : Int) &&& ~~~(BitVec.ofInt 64 ((n64 b : Nat) : Int))).toNat : Nat) : Int) = _
  rw [ofInt_lit64, ofInt_n64, wrap_n64, BitVec.ofInt_natCast, BitVec.ofNat_toNat, BitVec.setWidth_eq]; rfl
theorem wrap_add_n64 (a b : UInt64) : IntKind.u64.wrap (((n64 a : Nat) : Int) + ((n64 b : Nat) : Int)) = ((n64 (a + b) : Nat) : Int) := by
  rw [wrap_n64, BitVec.ofInt_add, ofInt_n64, ofInt_n64]; rfl
theorem wrap_add_n64_lit (a : UInt64) (k : Nat) : IntKind.u64.wrap (((n64 a : Nat) : Int) + (no_index (OfNat.ofNat k) : Int)) = ((n64 (a + (no_index (OfNat.ofNat k) : UInt64)) : Nat) : Int) := by
  rw [wrap_n64, BitVec.ofInt_add, ofInt_n64, ofInt_lit64]; rfl
theorem wrap_add_lit_n64 (b : UInt64) (k : Nat) : IntKind.u64.wrap ((no_index (OfNat.ofNat k) : Int) + ((n64 b : Nat) : Int)) = ((n64 ((no_index (OfNat.ofNat k) : UInt64) + b) : Nat) : Int) := by
  rw [wrap_n64, BitVec.ofInt_add, ofInt_lit64, ofInt_n64]; rfl
theorem wrap_sub_n64 (a b : UInt64) : IntKind.u64.wrap (((n64 a : Nat) : Int) - ((n64 b : Nat) : Int)) = ((n64 (a - b) : Nat) : Int) := by
  rw [wrap_n64, bv_ofInt_sub, ofInt_n64, ofInt_n64]; rfl
theorem wrap_sub_n64_lit (a : UInt64) (k : Nat) : IntKind.u64.wrap (((n64 a : Nat) : Int) - (no_index (OfNat.ofNat k) : Int)) = ((n64 (a - (no_index (OfNat.ofNat k) : UInt64)) : Nat) : Int) := by
  rw [wrap_n64, bv_ofInt_sub, ofInt_n64, ofInt_lit64]; rfl
theorem wrap_sub_lit_n64 (b : UInt64) (k : Nat) : IntKind.u64.wrap ((no_index (OfNat.ofNat k) : Int) - ((n64 b : Nat) : Int)) = ((n64 ((no_index (OfNat.ofNat k) : UInt64) - b) : Nat) : Int) := by
  rw [wrap_n64, bv_ofInt_sub, ofInt_lit64, ofInt_n64]; rfl
theorem wrap_mul_n64 (a b : UInt64) : IntKind.u64.wrap (((n64 a : Nat) : Int) * ((n64 b : Nat) : Int)) = ((n64 (a * b) : Nat) : Int) := by
  rw [wrap_n64, BitVec.ofInt_mul, ofInt_n64, ofInt_n64]; rfl
theorem wrap_mul_n64_lit (a : UInt64) (k : Nat) : IntKind.u64.wrap (((n64 a : Nat) : Int) * (no_index (OfNat.ofNat k) : Int)) = ((n64 (a * (no_index (OfNat.ofNat k) : UInt64)) : Nat) : Int) := by
  rw [wrap_n64, BitVec.ofInt_mul, ofInt_n64, ofInt_lit64]; rfl
theorem wrap_mul_lit_n64 (b : UInt64) (k : Nat) : IntKind.u64.wrap ((no_index (OfNat.ofNat k) : Int) * ((n64 b : Nat) : Int)) = ((n64 ((no_index (OfNat.ofNat k) : UInt64) * b) : Nat) : Int) := by
  rw [wrap_n64, BitVec.ofInt_mul, ofInt_lit64, ofInt_n64]; rfl
theorem wrap_neg_n64 (a : UInt64) : IntKind.u64.wrap (-((n64 a : Nat) : Int)) = ((n64 (-a) : Nat) : Int) := by
  rw [wrap_n64, BitVec.ofInt_neg, ofInt_n64]; rfl
theorem shl_n64_lit (a : UInt64) (yk : IntKind) (k : Nat) (h : k < 64) : Op.shift .shl .u64 ((n64 a : Nat) : Int) yk (no_index (OfNat.ofNat k) : Int) = pure (.int .u64 ((n64 (a <<< (no_index (OfNat.ofNat k) : UInt64)) : Nat) : Int)) := by
  show Op.shift .shl .u64 ((n64 a : Nat) : Int) yk ((k : Nat) : Int) = _
  rw [shift_shl_any _ _ _ _ (Int.natCast_nonneg k)]
  show pure (Value.int _ (IntKind.u64.wrap (((n64 a : Nat) : Int) * 2 ^ min k 64))) = _
  rw [Nat.min_eq_left (by omega), wrap_n64]
  congr 3
  show (BitVec.ofInt 64 (((n64 a : Nat) : Int) * 2 ^ k)).toNat = (a <<< (no_index (OfNat.ofNat k) : UInt64)).toNat
  rw [UInt64.toNat_shiftLeft]
  have e : (((n64 a : Nat) : Int) * 2 ^ k : Int) = ((n64 a * 2 ^ k : Nat) : Int) := by push_cast; rfl
  have e2 : (OfNat.ofNat k : UInt64).toNat = k % 18446744073709551616 := UInt64.toNat_ofNat
  rw [e, BitVec.ofInt_natCast, BitVec.toNat_ofNat, e2, Nat.shiftLeft_eq, Nat.mod_eq_of_lt (a := k) (b := 18446744073709551616) (by omega), Nat.mod_eq_of_lt (a := k) (b := 64) h]; rfl
theorem shr_n64_lit (a : UInt64) (yk : IntKind) (k : Nat) (h : k < 64) : Op.shift .shr .u64 ((n64 a : Nat) : Int) yk (no_index (OfNat.ofNat k) : Int) = pure (.int .u64 ((n64 (a >>> (no_index (OfNat.ofNat k) : UInt64)) : Nat) : Int)) := by
  show Op.shift .shr .u64 ((n64 a : Nat) : Int) yk ((k : Nat) : Int) = _
  rw [shift_shr_any _ _ _ _ (Int.natCast_nonneg k)]
  show pure (Value.int _ (((n64 a : Nat) : Int) / 2 ^ min k 64)) = _
  rw [Nat.min_eq_left (by omega)]
  have e : (((n64 a : Nat) : Int) / 2 ^ k : Int) = ((n64 a / 2 ^ k : Nat) : Int) := by push_cast; rfl
  have e2 : (OfNat.ofNat k : UInt64).toNat = k % 18446744073709551616 := UInt64.toNat_ofNat
  rw [e]; congr 2; congr 1
  show a.toNat / 2 ^ k = (a >>> (no_index (OfNat.ofNat k) : UInt64)).toNat
  rw [UInt64.toNat_shiftRight, e2, Nat.shiftRight_eq_div_pow, Nat.mod_eq_of_lt (a := k) (b := 18446744073709551616) (by omega), Nat.mod_eq_of_lt (a := k) (b := 64) h]
def shl64 (a : UInt64) (j : Nat) : UInt64 := UInt64.ofNat (a.toNat * 2 ^ min j 64)
def shr64 (a : UInt64) (j : Nat) : UInt64 := UInt64.ofNat (a.toNat / 2 ^ min j 64)
theorem shl_n64_nat (a : UInt64) (yk : IntKind) (j : Nat) : Op.shift .shl .u64 ((n64 a : Nat) : Int) yk (j : Int) = pure (.int .u64 ((n64 (shl64 a j) : Nat) : Int)) := by
  rw [shift_shl_any _ _ _ _ (Int.natCast_nonneg j)]
  show pure (Value.int _ (IntKind.u64.wrap (((n64 a : Nat) : Int) * 2 ^ min j 64))) = _
  have e : (((n64 a : Nat) : Int) * 2 ^ min j 64 : Int) = ((n64 a * 2 ^ min j 64 : Nat) : Int) := by push_cast; rfl
  rw [wrap_n64, e, BitVec.ofInt_natCast]; rfl
theorem shr_n64_nat (a : UInt64) (yk : IntKind) (j : Nat) : Op.shift .shr .u64 ((n64 a : Nat) : Int) yk (j : Int) = pure (.int .u64 ((n64 (shr64 a j) : Nat) : Int)) := by
  rw [shift_shr_any _ _ _ _ (Int.natCast_nonneg j)]
  show pure (Value.int _ (((n64 a : Nat) : Int) / 2 ^ min j 64)) = _
  have e : (((n64 a : Nat) : Int) / 2 ^ min j 64 : Int) = ((n64 a / 2 ^ min j 64 : Nat) : Int) := by push_cast; rfl
  have hl : n64 a / 2 ^ min j 64 < 18446744073709551616 := Nat.lt_of_le_of_lt (Nat.div_le_self _ _) (n64_lt a)
  rw [e]; congr 2; congr 1
  show n64 a / 2 ^ min j 64 = (UInt64.ofNat (a.toNat / 2 ^ min j 64)).toNat
  rw [UInt64.toNat_ofNat']; exact (Nat.mod_eq_of_lt hl).symm
theorem beq_n64 (a b : UInt64) : (((n64 a : Nat) : Int) == ((n64 b : Nat) : Int)) = (a == b) := by
  rw [Bool.eq_iff_iff, beq_iff_eq, beq_iff_eq, Int.ofNat_inj]; exact n64_inj a b
theorem bne_n64 (a b : UInt64) : (((n64 a : Nat) : Int) != ((n64 b : Nat) : Int)) = (a != b) := by
  show (!(((n64 a : Nat) : Int) == ((n64 b : Nat) : Int))) = !(a == b)
  rw [beq_n64]
theorem declt_n64 (a b : UInt64) : decide (((n64 a : Nat) : Int) < ((n64 b : Nat) : Int)) = decide (a < b) := by
  apply decide_eq_decide.2; rw [UInt64.lt_iff_toNat_lt]; exact Int.ofNat_lt
theorem decle_n64 (a b : UInt64) : decide (((n64 a : Nat) : Int) ≤ ((n64 b : Nat) : Int)) = decide (a ≤ b) := by
  apply decide_eq_decide.2; rw [UInt64.le_iff_toNat_le]; exact Int.ofNat_le
theorem lit_n64 (k : Nat) (h : k < 18446744073709551616) : (OfNat.ofNat k : Int) = ((n64 (OfNat.ofNat k : UInt64) : Nat) : Int) := n64_lit k h
theorem beq_n64_lit (a : UInt64) (k : Nat) (h : k < 18446744073709551616) : (((n64 a : Nat) : Int) == (no_index (OfNat.ofNat k) : Int)) = (a == (no_index (OfNat.ofNat k) : UInt64)) := by
  rw [lit_n64 k h]; exact beq_n64 a _
theorem bne_n64_lit (a : UInt64) (k : Nat) (h : k < 18446744073709551616) : (((n64 a : Nat) : Int) != (no_index (OfNat.ofNat k) : Int)) = (a != (no_index (OfNat.ofNat k) : UInt64)) := by
  rw [lit_n64 k h]; exact bne_n64 a _
theorem declt_n64_lit (a : UInt64) (k : Nat) (h : k < 18446744073709551616) : decide (((n64 a : Nat) : Int) < (no_index (OfNat.ofNat k) : Int)) = decide (a < (no_index (OfNat.ofNat k) : UInt64)) := by
  rw [lit_n64 k h]; exact declt_n64 a _
theorem declt_lit_n64 (a : UInt64) (k : Nat) (h : k < 18446744073709551616) : decide ((no_index (OfNat.ofNat k) : Int) < ((n64 a : Nat) : Int)) = decide ((no_index (OfNat.ofNat k) : UInt64) < a) := by
  rw [lit_n64 k h]; exact declt_n64 _ a
theorem decle_n64_lit (a : UInt64) (k : Nat) (h : k < 18446744073709551616) : decide (((n64 a : Nat) : Int) ≤ (no_index (OfNat.ofNat k) : Int)) = decide (a ≤ (no_index (OfNat.ofNat k) : UInt64)) := by
  rw [lit_n64 k h]; exact decle_n64 a _
theorem decle_lit_n64 (a : UInt64) (k : Nat) (h : k < 18446744073709551616) : decide ((no_index (OfNat.ofNat k) : Int) ≤ ((n64 a : Nat) : Int)) = decide ((no_index (OfNat.ofNat k) : UInt64) ≤ a) := by
  rw [lit_n64 k h]; exact decle_n64 _ a

theorem wrap_self_n8 (a : UInt8) : IntKind.u8.wrap ((n8 a : Nat) : Int) = ((n8 a : Nat) : Int) := by
  rw [wrap_n8, ofInt_n8]
theorem wrap_n16_of_n8 (a : UInt8) : IntKind.u16.wrap ((n8 a : Nat) : Int) = ((n16 a.toUInt16 : Nat) : Int) := by
  have hl := n8_lt a
  rw [wrap_n16, BitVec.ofInt_natCast]; congr 1
  show (BitVec.ofNat 16 (n8 a)).toNat = a.toUInt16.toNat
  rw [BitVec.toNat_ofNat, UInt8.toNat_toUInt16, Nat.mod_eq_of_lt (by omega)]; rfl
theorem wrap_n32_of_n8 (a : UInt8) : IntKind.u32.wrap ((n8 a : Nat) : Int) = ((n32 a.toUInt32 : Nat) : Int) := by
  have hl := n8_lt a
  rw [wrap_n32, BitVec.ofInt_natCast]; congr 1
  show (BitVec.ofNat 32 (n8 a)).toNat = a.toUInt32.toNat
  rw [BitVec.toNat_ofNat, UInt8.toNat_toUInt32, Nat.mod_eq_of_lt (by omega)]; rfl
theorem wrap_n64_of_n8 (a : UInt8) : IntKind.u64.wrap ((n8 a : Nat) : Int) = ((n64 a.toUInt64 : Nat) : Int) := by
  have hl := n8_lt a
  rw [wrap_n64, BitVec.ofInt_natCast]; congr 1
  show (BitVec.ofNat 64 (n8 a)).toNat = a.toUInt64.toNat
  rw [BitVec.toNat_ofNat, UInt8.toNat_toUInt64, Nat.mod_eq_of_lt (by omega)]; rfl
theorem wrap_i64_of_n8 (a : UInt8) : IntKind.i64.wrap ((n8 a : Nat) : Int) = ((n8 a : Nat) : Int) := by
  have := n8_lt a
  exact IntWalk.i64_in _ (by omega)
theorem wrap_n8_of_n16 (a : UInt16) : IntKind.u8.wrap ((n16 a : Nat) : Int) = ((n8 a.toUInt8 : Nat) : Int) := by
  rw [wrap_n8, BitVec.ofInt_natCast]; congr 1
theorem wrap_self_n16 (a : UInt16) : IntKind.u16.wrap ((n16 a : Nat) : Int) = ((n16 a : Nat) : Int) := by
  rw [wrap_n16, ofInt_n16]
theorem wrap_n32_of_n16 (a : UInt16) : IntKind.u32.wrap ((n16 a : Nat) : Int) = ((n32 a.toUInt32 : Nat) : Int) := by
  have hl := n16_lt a
  rw [wrap_n32, BitVec.ofInt_natCast]; congr 1
  show (BitVec.ofNat 32 (n16 a)).toNat = a.toUInt32.toNat
  rw [BitVec.toNat_ofNat, UInt16.toNat_toUInt32, Nat.mod_eq_of_lt (by omega)]; rfl
theorem wrap_n64_of_n16 (a : UInt16) : IntKind.u64.wrap ((n16 a : Nat) : Int) = ((n64 a.toUInt64 : Nat) : Int) := by
  have hl := n16_lt a
  rw [wrap_n64, BitVec.ofInt_natCast]; congr 1
  show (BitVec.ofNat 64 (n16 a)).toNat = a.toUInt64.toNat
  rw [BitVec.toNat_ofNat, UInt16.toNat_toUInt64, Nat.mod_eq_of_lt (by omega)]; rfl
theorem wrap_i64_of_n16 (a : UInt16) : IntKind.i64.wrap ((n16 a : Nat) : Int) = ((n16 a : Nat) : Int) := by
  have := n16_lt a
  exact IntWalk.i64_in _ (by omega)
theorem wrap_n8_of_n32 (a : UInt32) : IntKind.u8.wrap ((n32 a : Nat) : Int) = ((n8 a.toUInt8 : Nat) : Int) := by
  rw [wrap_n8, BitVec.ofInt_natCast]; congr 1
theorem wrap_n16_of_n32 (a : UInt32) : IntKind.u16.wrap ((n32 a : Nat) : Int) = ((n16 a.toUInt16 : Nat) : Int) := by
  rw [wrap_n16, BitVec.ofInt_natCast]; congr 1
theorem wrap_self_n32 (a : UInt32) : IntKind.u32.wrap ((n32 a : Nat) : Int) = ((n32 a : Nat) : Int) := by
  rw [wrap_n32, ofInt_n32]
theorem wrap_n64_of_n32 (a : UInt32) : IntKind.u64.wrap ((n32 a : Nat) : Int) = ((n64 a.toUInt64 : Nat) : Int) := by
  have hl := n32_lt a
  rw [wrap_n64, BitVec.ofInt_natCast]; congr 1
  show (BitVec.ofNat 64 (n32 a)).toNat = a.toUInt64.toNat
  rw [BitVec.toNat_ofNat, UInt32.toNat_toUInt64, Nat.mod_eq_of_lt (by omega)]; rfl
theorem wrap_i64_of_n32 (a : UInt32) : IntKind.i64.wrap ((n32 a : Nat) : Int) = ((n32 a : Nat) : Int) := by
  have := n32_lt a
  exact IntWalk.i64_in _ (by omega)
theorem wrap_n8_of_n64 (a : UInt64) : IntKind.u8.wrap ((n64 a : Nat) : Int) = ((n8 a.toUInt8 : Nat) : Int) := by
  rw [wrap_n8, BitVec.ofInt_natCast]; congr 1
theorem wrap_n16_of_n64 (a : UInt64) : IntKind.u16.wrap ((n64 a : Nat) : Int) = ((n16 a.toUInt16 : Nat) : Int) := by
  rw [wrap_n16, BitVec.ofInt_natCast]; congr 1
theorem wrap_n32_of_n64 (a : UInt64) : IntKind.u32.wrap ((n64 a : Nat) : Int) = ((n32 a.toUInt32 : Nat) : Int) := by
  rw [wrap_n32, BitVec.ofInt_natCast]; congr 1
theorem wrap_self_n64 (a : UInt64) : IntKind.u64.wrap ((n64 a : Nat) : Int) = ((n64 a : Nat) : Int) := by
  rw [wrap_n64, ofInt_n64]
attribute [go_sem high] bits_and_n8 bits_and_n8_lit bits_and_lit_n8 bits_or_n8 bits_or_n8_lit bits_or_lit_n8 bits_xor_n8 bits_xor_n8_lit
attribute [go_sem high] bits_xor_lit_n8 bits_andNot_n8 bits_andNot_n8_lit bits_andNot_lit_n8 wrap_add_n8 wrap_add_n8_lit wrap_add_lit_n8 wrap_sub_n8
attribute [go_sem high] wrap_sub_n8_lit wrap_sub_lit_n8 wrap_mul_n8 wrap_mul_n8_lit wrap_mul_lit_n8 wrap_neg_n8 beq_n8 bne_n8
attribute [go_sem high] declt_n8 decle_n8 beq_n8_lit bne_n8_lit declt_n8_lit declt_lit_n8 decle_n8_lit decle_lit_n8
attribute [go_sem high] bits_and_n16 bits_and_n16_lit bits_and_lit_n16 bits_or_n16 bits_or_n16_lit bits_or_lit_n16 bits_xor_n16 bits_xor_n16_lit
attribute [go_sem high] bits_xor_lit_n16 bits_andNot_n16 bits_andNot_n16_lit bits_andNot_lit_n16 wrap_add_n16 wrap_add_n16_lit wrap_add_lit_n16 wrap_sub_n16
attribute [go_sem high] wrap_sub_n16_lit wrap_sub_lit_n16 wrap_mul_n16 wrap_mul_n16_lit wrap_mul_lit_n16 wrap_neg_n16 beq_n16 bne_n16
attribute [go_sem high] declt_n16 decle_n16 beq_n16_lit bne_n16_lit declt_n16_lit declt_lit_n16 decle_n16_lit decle_lit_n16
attribute [go_sem high] bits_and_n32 bits_and_n32_lit bits_and_lit_n32 bits_or_n32 bits_or_n32_lit bits_or_lit_n32 bits_xor_n32 bits_xor_n32_lit
attribute [go_sem high] bits_xor_lit_n32 bits_andNot_n32 bits_andNot_n32_lit bits_andNot_lit_n32 wrap_add_n32 wrap_add_n32_lit wrap_add_lit_n32 wrap_sub_n32
attribute [go_sem high] wrap_sub_n32_lit wrap_sub_lit_n32 wrap_mul_n32 wrap_mul_n32_lit wrap_mul_lit_n32 wrap_neg_n32 beq_n32 bne_n32
attribute [go_sem high] declt_n32 decle_n32 beq_n32_lit bne_n32_lit declt_n32_lit declt_lit_n32 decle_n32_lit decle_lit_n32
attribute [go_sem high] bits_and_n64 bits_and_n64_lit bits_and_lit_n64 bits_or_n64 bits_or_n64_lit bits_or_lit_n64 bits_xor_n64 bits_xor_n64_lit
attribute [go_sem high] bits_xor_lit_n64 bits_andNot_n64 bits_andNot_n64_lit bits_andNot_lit_n64 wrap_add_n64 wrap_add_n64_lit wrap_add_lit_n64 wrap_sub_n64
attribute [go_sem high] wrap_sub_n64_lit wrap_sub_lit_n64 wrap_mul_n64 wrap_mul_n64_lit wrap_mul_lit_n64 wrap_neg_n64 beq_n64 bne_n64
attribute [go_sem high] declt_n64 decle_n64 beq_n64_lit bne_n64_lit declt_n64_lit declt_lit_n64 decle_n64_lit decle_lit_n64
attribute [go_sem high] wrap_self_n8 wrap_n16_of_n8 wrap_n32_of_n8 wrap_n64_of_n8 wrap_i64_of_n8 wrap_n8_of_n16 wrap_self_n16 wrap_n32_of_n16
attribute [go_sem high] wrap_n64_of_n16 wrap_i64_of_n16 wrap_n8_of_n32 wrap_n16_of_n32 wrap_self_n32 wrap_n64_of_n32 wrap_i64_of_n32 wrap_n8_of_n64
attribute [go_sem high] wrap_n16_of_n64 wrap_n32_of_n64 wrap_self_n64
attribute [go_sem ↓ high] shl_n8_lit shr_n8_lit shl_n8_nat shr_n8_nat shl_n16_lit shr_n16_lit shl_n16_nat shr_n16_nat
attribute [go_sem ↓ high] shl_n32_lit shr_n32_lit shl_n32_nat shr_n32_nat shl_n64_lit shr_n64_lit shl_n64_nat shr_n64_nat
end Go.Proofs.YtncaplplkfihgaaGreatDoor
