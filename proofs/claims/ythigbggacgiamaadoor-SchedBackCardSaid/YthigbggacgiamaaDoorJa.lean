/-
  Rules for a walk: an unsigned Go number is '.int .u8 (n8 x)' with x : UInt8 (n16, n32, n64 alike). Then Go's operations on it are Lean's own on UInt8 and its kin.
  Words for memory and for loops, used by all walks of this seat: a block known whole, a slice that reads as a list, a list of bytes as cells, a loop's state as the iterate of one step.
  Laws for a whole array (or struct) that is loaded, stored or laid: at the level of one operation, in a plain region, in a quiet one, in a still one.
  What the types of this seat hold: closed facts.
  Slices of bytes that the call itself made: append, index, cut.
  Slices of bytes turned into strings; strings held against one another.
  More on slices of bytes: kept in later worlds, cut.
  An array filled byte by byte.
  Two arrays of bytes held against one another.
  AES, as the program and as the reference reckon it, in plain Lean: no program in sight.
  AES's stream, as the program reckons it: in plain Lean.
  Plain laws of AES's stream: what stands at each place; the counter is a number of 32 bits; a stream goes on where it was left.
  A region that draws its order, taken step by step by hand: what only reads is taken first; a call where it alone may come up.
  A region that draws its order, taken by hand: guarded operations, strings.
  A region that draws its order, and whose operations give the same values in every world that meets S and end in such a world (a call that makes memory of its own, a load, arithmetic): taken once, in any one order, no branch.
  One operation, number s, may write: S false holds ahead of it, S true behind it.
  As HeldU, with a word g for what has been laid or written so far: an operation that keeps S g, whatever g, is taken first; one that lays or writes is taken where it alone may come up, or in each order.
  A drawn region whose calls make memory of their own: what is known of the world is a word that only grows (a predicate); what only reads is taken first.
  A call of a closure, in a drawn region.
  As HeldQ, with one operation set apart: the last one, which waits for all that only reads, and behind which nothing need be as it was.
  Single steps: a slice's part; any operation whose run is known.
  append(s, make([]byte, k)...) onto a slice that the call made.
  A byte or more put behind a slice that came in, whose room is full: the result is one's own.
  The field of 2^128 elements that Galois counter mode reckons in: products share out over XOR, may be turned round and grouped otherwise, have a 1 and no zero divisors. In plain Lean.
  Galois counter mode's reckoning, as the program and as the reference do it, in plain Lean; and that both are the field's products.
  The stream cipher of chacha, in plain Lean: its words, its rounds, its blocks.
  A slice of texts.
-/
import Derived.WalkKit
import Derived.Deep.Draws
import Derived.Below
import Derived.Laws.OwnMore
import Derived.Deep.AppendLies
import Derived.Laws.Rows
import Derived.Lib.Hide
import Derived.Deep.QuietTactic
import Derived.StillTailTactics
import Derived.Laws.Cells
import Derived.Laws.CopyRow
import Derived.Laws.Tables
import Derived.Test.YthigbggacgiamaaDoorProg
import Derived.Maps.AppendAt
import Derived.RegionTactic
import Derived.OwnWalk
import Derived.Laws.BytesString
import Derived.Laws.BytesArg
import Derived.Laws.Concat
import Derived.Deep.RegionLaw
import Derived.Laws.StructEq
import Derived.Deep.RegionHeld
import Derived.Lib.AppendZerosOnto
import Derived.Laws.MakeOwn
import Derived.BigRegion
set_option linter.unusedVariables false
set_option linter.unusedSimpArgs false
set_option maxRecDepth 100000
namespace Go.Proofs.YthigbggacgiamaaDoor
open Go.RowKit Go.Proofs
theorem bv_ofInt_sub (w : Nat) (x y : Int) : BitVec.ofInt w (x - y) = BitVec.ofInt w x - BitVec.ofInt w y := by
  rw [Int.sub_eq_add_neg, BitVec.ofInt_add, BitVec.ofInt_neg, BitVec.sub_eq_add_neg]

def n8 (x : UInt8) : Nat := x.toNat
theorem n8_lt (x : UInt8) : n8 x < 256 := x.toNat_lt
theorem n8_inj (a b : UInt8) : n8 a = n8 b ↔ a = b := ⟨fun h => UInt8.toNat_inj.1 h, fun h => h ▸ rfl⟩
theorem n8_lit (k : Nat) (h : k < 256) : (k : Int) = ((n8 (UInt8.ofNat k) : Nat) : Int) := by simp [n8, Nat.mod_eq_of_lt h]
theorem ofInt_n8 (x : UInt8) : BitVec.ofInt 8 ((n8 x : Nat) : Int) = x.toBitVec := by simp [n8, BitVec.ofInt_natCast]
theorem ofInt_lit8 (k : Nat) : BitVec.ofInt 8 (OfNat.ofNat k : Int) = (OfNat.ofNat k : UInt8).toBitVec := BitVec.ofInt_natCast 8 k
theorem wrap_n8 (x : Int) : IntKind.u8.wrap x = ((n8 (UInt8.ofBitVec (BitVec.ofInt 8 x)) : Nat) : Int) := by
  simp only [n8, IntKind.wrap, IntKind.bits, IntKind.signed, Bool.false_and, Bool.false_eq_true, if_false]
  show _ = (((BitVec.ofInt 8 x).toNat : Nat) : Int)
  rw [BitVec.toNat_ofInt]; omega
theorem bits_and_n8 (a b : UInt8) : bits .and .u8 ((n8 a : Nat) : Int) ((n8 b : Nat) : Int) = ((n8 (a &&& b) : Nat) : Int) := by
  show IntKind.u8.wrap (((BitVec.ofInt 8 ((n8 a : Nat) : Int) &&& BitVec.ofInt 8 ((n8 b : Nat) : Int)).toNat : Nat) : Int) = _
  rw [ofInt_n8, ofInt_n8, wrap_n8, BitVec.ofInt_natCast, BitVec.ofNat_toNat, BitVec.setWidth_eq]; rfl
theorem bits_and_n8_lit (a : UInt8) (k : Nat) : bits .and .u8 ((n8 a : Nat) : Int) (no_index (OfNat.ofNat k) : Int) = ((n8 (a &&& (no_index (OfNat.ofNat k) : UInt8)) : Nat) : Int) := by
  show IntKind.u8.wrap (((BitVec.ofInt 8 ((n8 a : Nat) : Int) &&& BitVec.ofInt 8 (no_index (OfNat.ofNat k) : Int)).toNat : Nat) : Int) = _
  rw [ofInt_n8, ofInt_lit8, wrap_n8, BitVec.ofInt_natCast, BitVec.ofNat_toNat, BitVec.setWidth_eq]; rfl
theorem bits_and_lit_n8 (b : UInt8) (k : Nat) : bits .and .u8 (no_index (OfNat.ofNat k) : Int) ((n8 b : Nat) : Int) = ((n8 ((no_index (OfNat.ofNat k) : UInt8) &&& b) : Nat) : Int) := by
  show IntKind.u8.wrap (((BitVec.ofInt 8 (no_index (OfNat.ofNat k) : Int) &&& BitVec.ofInt 8 ((n8 b : Nat) : Int)).toNat : Nat) : Int) = _
  rw [ofInt_lit8, ofInt_n8, wrap_n8, BitVec.ofInt_natCast, BitVec.ofNat_toNat, BitVec.setWidth_eq]; rfl
theorem bits_or_n8 (a b : UInt8) : bits .or .u8 ((n8 a : Nat) : Int) ((n8 b : Nat) : Int) = ((n8 (a ||| b) : Nat) : Int) := by
  show IntKind.u8.wrap (((BitVec.ofInt 8 ((n8 a : Nat) : Int) ||| BitVec.ofInt 8 ((n8 b : Nat) : Int)).toNat : Nat) : Int) = _
  rw [ofInt_n8, ofInt_n8, wrap_n8, BitVec.ofInt_natCast, BitVec.ofNat_toNat, BitVec.setWidth_eq]; rfl
theorem bits_or_n8_lit (a : UInt8) (k : Nat) : bits .or .u8 ((n8 a : Nat) : Int) (no_index (OfNat.ofNat k) : Int) = ((n8 (a ||| (no_index (OfNat.ofNat k) : UInt8)) : Nat) : Int) := by
  show IntKind.u8.wrap (((BitVec.ofInt 8 ((n8 a : Nat) : Int) ||| BitVec.ofInt 8 (no_index (OfNat.ofNat k) : Int)).toNat : Nat) : Int) = _
  rw [ofInt_n8, ofInt_lit8, wrap_n8, BitVec.ofInt_natCast, BitVec.ofNat_toNat, BitVec.setWidth_eq]; rfl
theorem bits_or_lit_n8 (b : UInt8) (k : Nat) : bits .or .u8 (no_index (OfNat.ofNat k) : Int) ((n8 b : Nat) : Int) = ((n8 ((no_index (OfNat.ofNat k) : UInt8) ||| b) : Nat) : Int) := by
  show IntKind.u8.wrap (((BitVec.ofInt 8 (no_index (OfNat.ofNat k) : Int) ||| BitVec.ofInt 8 ((n8 b : Nat) : Int)).toNat : Nat) : Int) = _
  rw [ofInt_lit8, ofInt_n8, wrap_n8, BitVec.ofInt_natCast, BitVec.ofNat_toNat, BitVec.setWidth_eq]; rfl
theorem bits_xor_n8 (a b : UInt8) : bits .xor .u8 ((n8 a : Nat) : Int) ((n8 b : Nat) : Int) = ((n8 (a ^^^ b) : Nat) : Int) := by
  show IntKind.u8.wrap (((BitVec.ofInt 8 ((n8 a : Nat) : Int) ^^^ BitVec.ofInt 8 ((n8 b : Nat) : Int)).toNat : Nat) : Int) = _
  rw [ofInt_n8, ofInt_n8, wrap_n8, BitVec.ofInt_natCast, BitVec.ofNat_toNat, BitVec.setWidth_eq]; rfl
theorem bits_xor_n8_lit (a : UInt8) (k : Nat) : bits .xor .u8 ((n8 a : Nat) : Int) (no_index (OfNat.ofNat k) : Int) = ((n8 (a ^^^ (no_index (OfNat.ofNat k) : UInt8)) : Nat) : Int) := by
  show IntKind.u8.wrap (((BitVec.ofInt 8 ((n8 a : Nat) : Int) ^^^ BitVec.ofInt 8 (no_index (OfNat.ofNat k) : Int)).toNat : Nat) : Int) = _
  rw [ofInt_n8, ofInt_lit8, wrap_n8, BitVec.ofInt_natCast, BitVec.ofNat_toNat, BitVec.setWidth_eq]; rfl
theorem bits_xor_lit_n8 (b : UInt8) (k : Nat) : bits .xor .u8 (no_index (OfNat.ofNat k) : Int) ((n8 b : Nat) : Int) = ((n8 ((no_index (OfNat.ofNat k) : UInt8) ^^^ b) : Nat) : Int) := by
  show IntKind.u8.wrap (((BitVec.ofInt 8 (no_index (OfNat.ofNat k) : Int) ^^^ BitVec.ofInt 8 ((n8 b : Nat) : Int)).toNat : Nat) : Int) = _
  rw [ofInt_lit8, ofInt_n8, wrap_n8, BitVec.ofInt_natCast, BitVec.ofNat_toNat, BitVec.setWidth_eq]; rfl
theorem bits_andNot_n8 (a b : UInt8) : bits .andNot .u8 ((n8 a : Nat) : Int) ((n8 b : Nat) : Int) = ((n8 (a &&& ~~~b) : Nat) : Int) := by
  show IntKind.u8.wrap (((BitVec.ofInt 8 ((n8 a : Nat) : Int) &&& ~~~(BitVec.ofInt 8 ((n8 b : Nat) : Int))).toNat : Nat) : Int) = _
  rw [ofInt_n8, ofInt_n8, wrap_n8, BitVec.ofInt_natCast, BitVec.ofNat_toNat, BitVec.setWidth_eq]; rfl
theorem bits_andNot_n8_lit (a : UInt8) (k : Nat) : bits .andNot .u8 ((n8 a : Nat) : Int) (no_index (OfNat.ofNat k) : Int) = ((n8 (a &&& ~~~(no_index (OfNat.ofNat k) : UInt8)) : Nat) : Int) := by
  show IntKind.u8.wrap (((BitVec.ofInt 8 ((n8 a : Nat) : Int) &&& ~~~(BitVec.ofInt 8 (no_index (OfNat.ofNat k) : Int))).toNat : Nat) : Int) = _
  rw [ofInt_n8, ofInt_lit8, wrap_n8, BitVec.ofInt_natCast, BitVec.ofNat_toNat, BitVec.setWidth_eq]; rfl
theorem bits_andNot_lit_n8 (b : UInt8) (k : Nat) : bits .andNot .u8 (no_index (OfNat.ofNat k) : Int) ((n8 b : Nat) : Int) = ((n8 ((no_index (OfNat.ofNat k) : UInt8) &&& ~~~b) : Nat) : Int) := by
  show IntKind.u8.wrap (((BitVec.ofInt 8 (no_index (OfNat.ofNat k) : Int) &&& ~~~(BitVec.ofInt 8 ((n8 b : Nat) : Int))).toNat : Nat) : Int) = _
  rw [ofInt_lit8, ofInt_n8, wrap_n8, BitVec.ofInt_natCast, BitVec.ofNat_toNat, BitVec.setWidth_eq]; rfl
theorem wrap_add_n8 (a b : UInt8) : IntKind.u8.wrap (((n8 a : Nat) : Int) + ((n8 b : Nat) : Int)) = ((n8 (a + b) : Nat) : Int) := by
  rw [wrap_n8, BitVec.ofInt_add, ofInt_n8, ofInt_n8]; rfl
theorem wrap_add_n8_lit (a : UInt8) (k : Nat) : IntKind.u8.wrap (((n8 a : Nat) : Int) + (no_index (OfNat.ofNat k) : Int)) = ((n8 (a + (no_index (OfNat.ofNat k) : UInt8)) : Nat) : Int) := by
  rw [wrap_n8, BitVec.ofInt_add, ofInt_n8, ofInt_lit8]; rfl
theorem wrap_add_lit_n8 (b : UInt8) (k : Nat) : IntKind.u8.wrap ((no_index (OfNat.ofNat k) : Int) + ((n8 b : Nat) : Int)) = ((n8 ((no_index (OfNat.ofNat k) : UInt8) + b) : Nat) : Int) := by
  rw [wrap_n8, BitVec.ofInt_add, ofInt_lit8, ofInt_n8]; rfl
theorem wrap_sub_n8 (a b : UInt8) : IntKind.u8.wrap (((n8 a : Nat) : Int) - ((n8 b : Nat) : Int)) = ((n8 (a - b) : Nat) : Int) := by
  rw [wrap_n8, bv_ofInt_sub, ofInt_n8, ofInt_n8]; rfl
theorem wrap_sub_n8_lit (a : UInt8) (k : Nat) : IntKind.u8.wrap (((n8 a : Nat) : Int) - (no_index (OfNat.ofNat k) : Int)) = ((n8 (a - (no_index (OfNat.ofNat k) : UInt8)) : Nat) : Int) := by
  rw [wrap_n8, bv_ofInt_sub, ofInt_n8, ofInt_lit8]; rfl
theorem wrap_sub_lit_n8 (b : UInt8) (k : Nat) : IntKind.u8.wrap ((no_index (OfNat.ofNat k) : Int) - ((n8 b : Nat) : Int)) = ((n8 ((no_index (OfNat.ofNat k) : UInt8) - b) : Nat) : Int) := by
  rw [wrap_n8, bv_ofInt_sub, ofInt_lit8, ofInt_n8]; rfl
theorem wrap_mul_n8 (a b : UInt8) : IntKind.u8.wrap (((n8 a : Nat) : Int) * ((n8 b : Nat) : Int)) = ((n8 (a * b) : Nat) : Int) := by
  rw [wrap_n8, BitVec.ofInt_mul, ofInt_n8, ofInt_n8]; rfl
theorem wrap_mul_n8_lit (a : UInt8) (k : Nat) : IntKind.u8.wrap (((n8 a : Nat) : Int) * (no_index (OfNat.ofNat k) : Int)) = ((n8 (a * (no_index (OfNat.ofNat k) : UInt8)) : Nat) : Int) := by
  rw [wrap_n8, BitVec.ofInt_mul, ofInt_n8, ofInt_lit8]; rfl
theorem wrap_mul_lit_n8 (b : UInt8) (k : Nat) : IntKind.u8.wrap ((no_index (OfNat.ofNat k) : Int) * ((n8 b : Nat) : Int)) = ((n8 ((no_index (OfNat.ofNat k) : UInt8) * b) : Nat) : Int) := by
  rw [wrap_n8, BitVec.ofInt_mul, ofInt_lit8, ofInt_n8]; rfl
theorem wrap_neg_n8 (a : UInt8) : IntKind.u8.wrap (-((n8 a : Nat) : Int)) = ((n8 (-a) : Nat) : Int) := by
  rw [wrap_n8, BitVec.ofInt_neg, ofInt_n8]; rfl
theorem shl_n8_lit (a : UInt8) (yk : IntKind) (k : Nat) (h : k < 8) : Op.shift .shl .u8 ((n8 a : Nat) : Int) yk (no_index (OfNat.ofNat k) : Int) = pure (.int .u8 ((n8 (a <<< (no_index (OfNat.ofNat k) : UInt8)) : Nat) : Int)) := by
  show Op.shift .shl .u8 ((n8 a : Nat) : Int) yk ((k : Nat) : Int) = _
  rw [shift_shl_any _ _ _ _ (Int.natCast_nonneg k)]
  show pure (Value.int _ (IntKind.u8.wrap (((n8 a : Nat) : Int) * 2 ^ min k 8))) = _
  rw [Nat.min_eq_left (by omega), wrap_n8]
  congr 3
  show (BitVec.ofInt 8 (((n8 a : Nat) : Int) * 2 ^ k)).toNat = (a <<< (no_index (OfNat.ofNat k) : UInt8)).toNat
  rw [UInt8.toNat_shiftLeft]
  have e : (((n8 a : Nat) : Int) * 2 ^ k : Int) = ((n8 a * 2 ^ k : Nat) : Int) := by push_cast; rfl
  have e2 : (OfNat.ofNat k : UInt8).toNat = k % 256 := UInt8.toNat_ofNat
  rw [e, BitVec.ofInt_natCast, BitVec.toNat_ofNat, e2, Nat.shiftLeft_eq, Nat.mod_eq_of_lt (a := k) (b := 256) (by omega), Nat.mod_eq_of_lt (a := k) (b := 8) h]; rfl
theorem shr_n8_lit (a : UInt8) (yk : IntKind) (k : Nat) (h : k < 8) : Op.shift .shr .u8 ((n8 a : Nat) : Int) yk (no_index (OfNat.ofNat k) : Int) = pure (.int .u8 ((n8 (a >>> (no_index (OfNat.ofNat k) : UInt8)) : Nat) : Int)) := by
  show Op.shift .shr .u8 ((n8 a : Nat) : Int) yk ((k : Nat) : Int) = _
  rw [shift_shr_any _ _ _ _ (Int.natCast_nonneg k)]
  show pure (Value.int _ (((n8 a : Nat) : Int) / 2 ^ min k 8)) = _
  rw [Nat.min_eq_left (by omega)]
  have e : (((n8 a : Nat) : Int) / 2 ^ k : Int) = ((n8 a / 2 ^ k : Nat) : Int) := by push_cast; rfl
  have e2 : (OfNat.ofNat k : UInt8).toNat = k % 256 := UInt8.toNat_ofNat
  rw [e]; congr 2; congr 1
  show a.toNat / 2 ^ k = (a >>> (no_index (OfNat.ofNat k) : UInt8)).toNat
  rw [UInt8.toNat_shiftRight, e2, Nat.shiftRight_eq_div_pow, Nat.mod_eq_of_lt (a := k) (b := 256) (by omega), Nat.mod_eq_of_lt (a := k) (b := 8) h]
def shl8 (a : UInt8) (j : Nat) : UInt8 := UInt8.ofNat (a.toNat * 2 ^ min j 8)
def shr8 (a : UInt8) (j : Nat) : UInt8 := UInt8.ofNat (a.toNat / 2 ^ min j 8)
theorem shl_n8_nat (a : UInt8) (yk : IntKind) (j : Nat) : Op.shift .shl .u8 ((n8 a : Nat) : Int) yk (j : Int) = pure (.int .u8 ((n8 (shl8 a j) : Nat) : Int)) := by
  rw [shift_shl_any _ _ _ _ (Int.natCast_nonneg j)]
  show pure (Value.int _ (IntKind.u8.wrap (((n8 a : Nat) : Int) * 2 ^ min j 8))) = _
  have e : (((n8 a : Nat) : Int) * 2 ^ min j 8 : Int) = ((n8 a * 2 ^ min j 8 : Nat) : Int) := by push_cast; rfl
  rw [wrap_n8, e, BitVec.ofInt_natCast]; rfl
theorem shr_n8_nat (a : UInt8) (yk : IntKind) (j : Nat) : Op.shift .shr .u8 ((n8 a : Nat) : Int) yk (j : Int) = pure (.int .u8 ((n8 (shr8 a j) : Nat) : Int)) := by
  rw [shift_shr_any _ _ _ _ (Int.natCast_nonneg j)]
  show pure (Value.int _ (((n8 a : Nat) : Int) / 2 ^ min j 8)) = _
  have e : (((n8 a : Nat) : Int) / 2 ^ min j 8 : Int) = ((n8 a / 2 ^ min j 8 : Nat) : Int) := by push_cast; rfl
  have hl : n8 a / 2 ^ min j 8 < 256 := Nat.lt_of_le_of_lt (Nat.div_le_self _ _) (n8_lt a)
  rw [e]; congr 2; congr 1
  show n8 a / 2 ^ min j 8 = (UInt8.ofNat (a.toNat / 2 ^ min j 8)).toNat
  rw [UInt8.toNat_ofNat']; exact (Nat.mod_eq_of_lt hl).symm
theorem beq_n8 (a b : UInt8) : (((n8 a : Nat) : Int) == ((n8 b : Nat) : Int)) = (a == b) := by
  rw [Bool.eq_iff_iff, beq_iff_eq, beq_iff_eq, Int.ofNat_inj]; exact n8_inj a b
theorem bne_n8 (a b : UInt8) : (((n8 a : Nat) : Int) != ((n8 b : Nat) : Int)) = (a != b) := by
  show (!(((n8 a : Nat) : Int) == ((n8 b : Nat) : Int))) = !(a == b)
  rw [beq_n8]
theorem declt_n8 (a b : UInt8) : decide (((n8 a : Nat) : Int) < ((n8 b : Nat) : Int)) = decide (a < b) := by
  apply decide_eq_decide.2; rw [UInt8.lt_iff_toNat_lt]; exact Int.ofNat_lt
theorem decle_n8 (a b : UInt8) : decide (((n8 a : Nat) : Int) ≤ ((n8 b : Nat) : Int)) = decide (a ≤ b) := by
  apply decide_eq_decide.2; rw [UInt8.le_iff_toNat_le]; exact Int.ofNat_le
theorem lit_n8 (k : Nat) (h : k < 256) : (OfNat.ofNat k : Int) = ((n8 (OfNat.ofNat k : UInt8) : Nat) : Int) := n8_lit k h
theorem beq_n8_lit (a : UInt8) (k : Nat) (h : k < 256) : (((n8 a : Nat) : Int) == (no_index (OfNat.ofNat k) : Int)) = (a == (no_index (OfNat.ofNat k) : UInt8)) := by
  rw [lit_n8 k h]; exact beq_n8 a _
theorem bne_n8_lit (a : UInt8) (k : Nat) (h : k < 256) : (((n8 a : Nat) : Int) != (no_index (OfNat.ofNat k) : Int)) = (a != (no_index (OfNat.ofNat k) : UInt8)) := by
  rw [lit_n8 k h]; exact bne_n8 a _
theorem declt_n8_lit (a : UInt8) (k : Nat) (h : k < 256) : decide (((n8 a : Nat) : Int) < (no_index (OfNat.ofNat k) : Int)) = decide (a < (no_index (OfNat.ofNat k) : UInt8)) := by
  rw [lit_n8 k h]; exact declt_n8 a _
theorem declt_lit_n8 (a : UInt8) (k : Nat) (h : k < 256) : decide ((no_index (OfNat.ofNat k) : Int) < ((n8 a : Nat) : Int)) = decide ((no_index (OfNat.ofNat k) : UInt8) < a) := by
  rw [lit_n8 k h]; exact declt_n8 _ a
theorem decle_n8_lit (a : UInt8) (k : Nat) (h : k < 256) : decide (((n8 a : Nat) : Int) ≤ (no_index (OfNat.ofNat k) : Int)) = decide (a ≤ (no_index (OfNat.ofNat k) : UInt8)) := by
  rw [lit_n8 k h]; exact decle_n8 a _
theorem decle_lit_n8 (a : UInt8) (k : Nat) (h : k < 256) : decide ((no_index (OfNat.ofNat k) : Int) ≤ ((n8 a : Nat) : Int)) = decide ((no_index (OfNat.ofNat k) : UInt8) ≤ a) := by
  rw [lit_n8 k h]; exact decle_n8 _ a

def n16 (x : UInt16) : Nat := x.toNat
theorem n16_lt (x : UInt16) : n16 x < 65536 := x.toNat_lt
theorem n16_inj (a b : UInt16) : n16 a = n16 b ↔ a = b := ⟨fun h => UInt16.toNat_inj.1 h, fun h => h ▸ rfl⟩
theorem n16_lit (k : Nat) (h : k < 65536) : (k : Int) = ((n16 (UInt16.ofNat k) : Nat) : Int) := by simp [n16, Nat.mod_eq_of_lt h]
theorem ofInt_n16 (x : UInt16) : BitVec.ofInt 16 ((n16 x : Nat) : Int) = x.toBitVec := by simp [n16, BitVec.ofInt_natCast]
theorem ofInt_lit16 (k : Nat) : BitVec.ofInt 16 (OfNat.ofNat k : Int) = (OfNat.ofNat k : UInt16).toBitVec := BitVec.ofInt_natCast 16 k
theorem wrap_n16 (x : Int) : IntKind.u16.wrap x = ((n16 (UInt16.ofBitVec (BitVec.ofInt 16 x)) : Nat) : Int) := by
  simp only [n16, IntKind.wrap, IntKind.bits, IntKind.signed, Bool.false_and, Bool.false_eq_true, if_false]
  show _ = (((BitVec.ofInt 16 x).toNat : Nat) : Int)
  rw [BitVec.toNat_ofInt]; omega
theorem bits_and_n16 (a b : UInt16) : bits .and .u16 ((n16 a : Nat) : Int) ((n16 b : Nat) : Int) = ((n16 (a &&& b) : Nat) : Int) := by
  show IntKind.u16.wrap (((BitVec.ofInt 16 ((n16 a : Nat) : Int) &&& BitVec.ofInt 16 ((n16 b : Nat) : Int)).toNat : Nat) : Int) = _
  rw [ofInt_n16, ofInt_n16, wrap_n16, BitVec.ofInt_natCast, BitVec.ofNat_toNat, BitVec.setWidth_eq]; rfl
theorem bits_and_n16_lit (a : UInt16) (k : Nat) : bits .and .u16 ((n16 a : Nat) : Int) (no_index (OfNat.ofNat k) : Int) = ((n16 (a &&& (no_index (OfNat.ofNat k) : UInt16)) : Nat) : Int) := by
  show IntKind.u16.wrap (((BitVec.ofInt 16 ((n16 a : Nat) : Int) &&& BitVec.ofInt 16 (no_index (OfNat.ofNat k) : Int)).toNat : Nat) : Int) = _
  rw [ofInt_n16, ofInt_lit16, wrap_n16, BitVec.ofInt_natCast, BitVec.ofNat_toNat, BitVec.setWidth_eq]; rfl
theorem bits_and_lit_n16 (b : UInt16) (k : Nat) : bits .and .u16 (no_index (OfNat.ofNat k) : Int) ((n16 b : Nat) : Int) = ((n16 ((no_index (OfNat.ofNat k) : UInt16) &&& b) : Nat) : Int) := by
  show IntKind.u16.wrap (((BitVec.ofInt 16 (no_index (OfNat.ofNat k) : Int) &&& BitVec.ofInt 16 ((n16 b : Nat) : Int)).toNat : Nat) : Int) = _
  rw [ofInt_lit16, ofInt_n16, wrap_n16, BitVec.ofInt_natCast, BitVec.ofNat_toNat, BitVec.setWidth_eq]; rfl
theorem bits_or_n16 (a b : UInt16) : bits .or .u16 ((n16 a : Nat) : Int) ((n16 b : Nat) : Int) = ((n16 (a ||| b) : Nat) : Int) := by
  show IntKind.u16.wrap (((BitVec.ofInt 16 ((n16 a : Nat) : Int) ||| BitVec.ofInt 16 ((n16 b : Nat) : Int)).toNat : Nat) : Int) = _
  rw [ofInt_n16, ofInt_n16, wrap_n16, BitVec.ofInt_natCast, BitVec.ofNat_toNat, BitVec.setWidth_eq]; rfl
theorem bits_or_n16_lit (a : UInt16) (k : Nat) : bits .or .u16 ((n16 a : Nat) : Int) (no_index (OfNat.ofNat k) : Int) = ((n16 (a ||| (no_index (OfNat.ofNat k) : UInt16)) : Nat) : Int) := by
  show IntKind.u16.wrap (((BitVec.ofInt 16 ((n16 a : Nat) : Int) ||| BitVec.ofInt 16 (no_index (OfNat.ofNat k) : Int)).toNat : Nat) : Int) = _
  rw [ofInt_n16, ofInt_lit16, wrap_n16, BitVec.ofInt_natCast, BitVec.ofNat_toNat, BitVec.setWidth_eq]; rfl
theorem bits_or_lit_n16 (b : UInt16) (k : Nat) : bits .or .u16 (no_index (OfNat.ofNat k) : Int) ((n16 b : Nat) : Int) = ((n16 ((no_index (OfNat.ofNat k) : UInt16) ||| b) : Nat) : Int) := by
  show IntKind.u16.wrap (((BitVec.ofInt 16 (no_index (OfNat.ofNat k) : Int) ||| BitVec.ofInt 16 ((n16 b : Nat) : Int)).toNat : Nat) : Int) = _
  rw [ofInt_lit16, ofInt_n16, wrap_n16, BitVec.ofInt_natCast, BitVec.ofNat_toNat, BitVec.setWidth_eq]; rfl
theorem bits_xor_n16 (a b : UInt16) : bits .xor .u16 ((n16 a : Nat) : Int) ((n16 b : Nat) : Int) = ((n16 (a ^^^ b) : Nat) : Int) := by
  show IntKind.u16.wrap (((BitVec.ofInt 16 ((n16 a : Nat) : Int) ^^^ BitVec.ofInt 16 ((n16 b : Nat) : Int)).toNat : Nat) : Int) = _
  rw [ofInt_n16, ofInt_n16, wrap_n16, BitVec.ofInt_natCast, BitVec.ofNat_toNat, BitVec.setWidth_eq]; rfl
theorem bits_xor_n16_lit (a : UInt16) (k : Nat) : bits .xor .u16 ((n16 a : Nat) : Int) (no_index (OfNat.ofNat k) : Int) = ((n16 (a ^^^ (no_index (OfNat.ofNat k) : UInt16)) : Nat) : Int) := by
  show IntKind.u16.wrap (((BitVec.ofInt 16 ((n16 a : Nat) : Int) ^^^ BitVec.ofInt 16 (no_index (OfNat.ofNat k) : Int)).toNat : Nat) : Int) = _
  rw [ofInt_n16, ofInt_lit16, wrap_n16, BitVec.ofInt_natCast, BitVec.ofNat_toNat, BitVec.setWidth_eq]; rfl
theorem bits_xor_lit_n16 (b : UInt16) (k : Nat) : bits .xor .u16 (no_index (OfNat.ofNat k) : Int) ((n16 b : Nat) : Int) = ((n16 ((no_index (OfNat.ofNat k) : UInt16) ^^^ b) : Nat) : Int) := by
  show IntKind.u16.wrap (((BitVec.ofInt 16 (no_index (OfNat.ofNat k) : Int) ^^^ BitVec.ofInt 16 ((n16 b : Nat) : Int)).toNat : Nat) : Int) = _
  rw [ofInt_lit16, ofInt_n16, wrap_n16, BitVec.ofInt_natCast, BitVec.ofNat_toNat, BitVec.setWidth_eq]; rfl
theorem bits_andNot_n16 (a b : UInt16) : bits .andNot .u16 ((n16 a : Nat) : Int) ((n16 b : Nat) : Int) = ((n16 (a &&& ~~~b) : Nat) : Int) := by
  show IntKind.u16.wrap (((BitVec.ofInt 16 ((n16 a : Nat) : Int) &&& ~~~(BitVec.ofInt 16 ((n16 b : Nat) : Int))).toNat : Nat) : Int) = _
  rw [ofInt_n16, ofInt_n16, wrap_n16, BitVec.ofInt_natCast, BitVec.ofNat_toNat, BitVec.setWidth_eq]; rfl
theorem bits_andNot_n16_lit (a : UInt16) (k : Nat) : bits .andNot .u16 ((n16 a : Nat) : Int) (no_index (OfNat.ofNat k) : Int) = ((n16 (a &&& ~~~(no_index (OfNat.ofNat k) : UInt16)) : Nat) : Int) := by
  show IntKind.u16.wrap (((BitVec.ofInt 16 ((n16 a : Nat) : Int) &&& ~~~(BitVec.ofInt 16 (no_index (OfNat.ofNat k) : Int))).toNat : Nat) : Int) = _
  rw [ofInt_n16, ofInt_lit16, wrap_n16, BitVec.ofInt_natCast, BitVec.ofNat_toNat, BitVec.setWidth_eq]; rfl
theorem bits_andNot_lit_n16 (b : UInt16) (k : Nat) : bits .andNot .u16 (no_index (OfNat.ofNat k) : Int) ((n16 b : Nat) : Int) = ((n16 ((no_index (OfNat.ofNat k) : UInt16) &&& ~~~b) : Nat) : Int) := by
  show IntKind.u16.wrap (((BitVec.ofInt 16 (no_index (OfNat.ofNat k) : Int) &&& ~~~(BitVec.ofInt 16 ((n16 b : Nat) : Int))).toNat : Nat) : Int) = _
  rw [ofInt_lit16, ofInt_n16, wrap_n16, BitVec.ofInt_natCast, BitVec.ofNat_toNat, BitVec.setWidth_eq]; rfl
theorem wrap_add_n16 (a b : UInt16) : IntKind.u16.wrap (((n16 a : Nat) : Int) + ((n16 b : Nat) : Int)) = ((n16 (a + b) : Nat) : Int) := by
  rw [wrap_n16, BitVec.ofInt_add, ofInt_n16, ofInt_n16]; rfl
theorem wrap_add_n16_lit (a : UInt16) (k : Nat) : IntKind.u16.wrap (((n16 a : Nat) : Int) + (no_index (OfNat.ofNat k) : Int)) = ((n16 (a + (no_index (OfNat.ofNat k) : UInt16)) : Nat) : Int) := by
  rw [wrap_n16, BitVec.ofInt_add, ofInt_n16, ofInt_lit16]; rfl
theorem wrap_add_lit_n16 (b : UInt16) (k : Nat) : IntKind.u16.wrap ((no_index (OfNat.ofNat k) : Int) + ((n16 b : Nat) : Int)) = ((n16 ((no_index (OfNat.ofNat k) : UInt16) + b) : Nat) : Int) := by
  rw [wrap_n16, BitVec.ofInt_add, ofInt_lit16, ofInt_n16]; rfl
theorem wrap_sub_n16 (a b : UInt16) : IntKind.u16.wrap (((n16 a : Nat) : Int) - ((n16 b : Nat) : Int)) = ((n16 (a - b) : Nat) : Int) := by
  rw [wrap_n16, bv_ofInt_sub, ofInt_n16, ofInt_n16]; rfl
theorem wrap_sub_n16_lit (a : UInt16) (k : Nat) : IntKind.u16.wrap (((n16 a : Nat) : Int) - (no_index (OfNat.ofNat k) : Int)) = ((n16 (a - (no_index (OfNat.ofNat k) : UInt16)) : Nat) : Int) := by
  rw [wrap_n16, bv_ofInt_sub, ofInt_n16, ofInt_lit16]; rfl
theorem wrap_sub_lit_n16 (b : UInt16) (k : Nat) : IntKind.u16.wrap ((no_index (OfNat.ofNat k) : Int) - ((n16 b : Nat) : Int)) = ((n16 ((no_index (OfNat.ofNat k) : UInt16) - b) : Nat) : Int) := by
  rw [wrap_n16, bv_ofInt_sub, ofInt_lit16, ofInt_n16]; rfl
theorem wrap_mul_n16 (a b : UInt16) : IntKind.u16.wrap (((n16 a : Nat) : Int) * ((n16 b : Nat) : Int)) = ((n16 (a * b) : Nat) : Int) := by
  rw [wrap_n16, BitVec.ofInt_mul, ofInt_n16, ofInt_n16]; rfl
theorem wrap_mul_n16_lit (a : UInt16) (k : Nat) : IntKind.u16.wrap (((n16 a : Nat) : Int) * (no_index (OfNat.ofNat k) : Int)) = ((n16 (a * (no_index (OfNat.ofNat k) : UInt16)) : Nat) : Int) := by
  rw [wrap_n16, BitVec.ofInt_mul, ofInt_n16, ofInt_lit16]; rfl
theorem wrap_mul_lit_n16 (b : UInt16) (k : Nat) : IntKind.u16.wrap ((no_index (OfNat.ofNat k) : Int) * ((n16 b : Nat) : Int)) = ((n16 ((no_index (OfNat.ofNat k) : UInt16) * b) : Nat) : Int) := by
  rw [wrap_n16, BitVec.ofInt_mul, ofInt_lit16, ofInt_n16]; rfl
theorem wrap_neg_n16 (a : UInt16) : IntKind.u16.wrap (-((n16 a : Nat) : Int)) = ((n16 (-a) : Nat) : Int) := by
  rw [wrap_n16, BitVec.ofInt_neg, ofInt_n16]; rfl
theorem shl_n16_lit (a : UInt16) (yk : IntKind) (k : Nat) (h : k < 16) : Op.shift .shl .u16 ((n16 a : Nat) : Int) yk (no_index (OfNat.ofNat k) : Int) = pure (.int .u16 ((n16 (a <<< (no_index (OfNat.ofNat k) : UInt16)) : Nat) : Int)) := by
  show Op.shift .shl .u16 ((n16 a : Nat) : Int) yk ((k : Nat) : Int) = _
  rw [shift_shl_any _ _ _ _ (Int.natCast_nonneg k)]
  show pure (Value.int _ (IntKind.u16.wrap (((n16 a : Nat) : Int) * 2 ^ min k 16))) = _
  rw [Nat.min_eq_left (by omega), wrap_n16]
  congr 3
  show (BitVec.ofInt 16 (((n16 a : Nat) : Int) * 2 ^ k)).toNat = (a <<< (no_index (OfNat.ofNat k) : UInt16)).toNat
  rw [UInt16.toNat_shiftLeft]
  have e : (((n16 a : Nat) : Int) * 2 ^ k : Int) = ((n16 a * 2 ^ k : Nat) : Int) := by push_cast; rfl
  have e2 : (OfNat.ofNat k : UInt16).toNat = k % 65536 := UInt16.toNat_ofNat
  rw [e, BitVec.ofInt_natCast, BitVec.toNat_ofNat, e2, Nat.shiftLeft_eq, Nat.mod_eq_of_lt (a := k) (b := 65536) (by omega), Nat.mod_eq_of_lt (a := k) (b := 16) h]; rfl
theorem shr_n16_lit (a : UInt16) (yk : IntKind) (k : Nat) (h : k < 16) : Op.shift .shr .u16 ((n16 a : Nat) : Int) yk (no_index (OfNat.ofNat k) : Int) = pure (.int .u16 ((n16 (a >>> (no_index (OfNat.ofNat k) : UInt16)) : Nat) : Int)) := by
  show Op.shift .shr .u16 ((n16 a : Nat) : Int) yk ((k : Nat) : Int) = _
  rw [shift_shr_any _ _ _ _ (Int.natCast_nonneg k)]
  show pure (Value.int _ (((n16 a : Nat) : Int) / 2 ^ min k 16)) = _
  rw [Nat.min_eq_left (by omega)]
  have e : (((n16 a : Nat) : Int) / 2 ^ k : Int) = ((n16 a / 2 ^ k : Nat) : Int) := by push_cast; rfl
  have e2 : (OfNat.ofNat k : UInt16).toNat = k % 65536 := UInt16.toNat_ofNat
  rw [e]; congr 2; congr 1
  show a.toNat / 2 ^ k = (a >>> (no_index (OfNat.ofNat k) : UInt16)).toNat
  rw [UInt16.toNat_shiftRight, e2, Nat.shiftRight_eq_div_pow, Nat.mod_eq_of_lt (a := k) (b := 65536) (by omega), Nat.mod_eq_of_lt (a := k) (b := 16) h]
def shl16 (a : UInt16) (j : Nat) : UInt16 := UInt16.ofNat (a.toNat * 2 ^ min j 16)
def shr16 (a : UInt16) (j : Nat) : UInt16 := UInt16.ofNat (a.toNat / 2 ^ min j 16)
theorem shl_n16_nat (a : UInt16) (yk : IntKind) (j : Nat) : Op.shift .shl .u16 ((n16 a : Nat) : Int) yk (j : Int) = pure (.int .u16 ((n16 (shl16 a j) : Nat) : Int)) := by
  rw [shift_shl_any _ _ _ _ (Int.natCast_nonneg j)]
  show pure (Value.int _ (IntKind.u16.wrap (((n16 a : Nat) : Int) * 2 ^ min j 16))) = _
  have e : (((n16 a : Nat) : Int) * 2 ^ min j 16 : Int) = ((n16 a * 2 ^ min j 16 : Nat) : Int) := by push_cast; rfl
  rw [wrap_n16, e, BitVec.ofInt_natCast]; rfl
theorem shr_n16_nat (a : UInt16) (yk : IntKind) (j : Nat) : Op.shift .shr .u16 ((n16 a : Nat) : Int) yk (j : Int) = pure (.int .u16 ((n16 (shr16 a j) : Nat) : Int)) := by
  rw [shift_shr_any _ _ _ _ (Int.natCast_nonneg j)]
  show pure (Value.int _ (((n16 a : Nat) : Int) / 2 ^ min j 16)) = _
  have e : (((n16 a : Nat) : Int) / 2 ^ min j 16 : Int) = ((n16 a / 2 ^ min j 16 : Nat) : Int) := by push_cast; rfl
  have hl : n16 a / 2 ^ min j 16 < 65536 := Nat.lt_of_le_of_lt (Nat.div_le_self _ _) (n16_lt a)
  rw [e]; congr 2; congr 1
  show n16 a / 2 ^ min j 16 = (UInt16.ofNat (a.toNat / 2 ^ min j 16)).toNat
  rw [UInt16.toNat_ofNat']; exact (Nat.mod_eq_of_lt hl).symm
theorem beq_n16 (a b : UInt16) : (((n16 a : Nat) : Int) == ((n16 b : Nat) : Int)) = (a == b) := by
  rw [Bool.eq_iff_iff, beq_iff_eq, beq_iff_eq, Int.ofNat_inj]; exact n16_inj a b
theorem bne_n16 (a b : UInt16) : (((n16 a : Nat) : Int) != ((n16 b : Nat) : Int)) = (a != b) := by
  show (!(((n16 a : Nat) : Int) == ((n16 b : Nat) : Int))) = !(a == b)
  rw [beq_n16]
theorem declt_n16 (a b : UInt16) : decide (((n16 a : Nat) : Int) < ((n16 b : Nat) : Int)) = decide (a < b) := by
  apply decide_eq_decide.2; rw [UInt16.lt_iff_toNat_lt]; exact Int.ofNat_lt
theorem decle_n16 (a b : UInt16) : decide (((n16 a : Nat) : Int) ≤ ((n16 b : Nat) : Int)) = decide (a ≤ b) := by
  apply decide_eq_decide.2; rw [UInt16.le_iff_toNat_le]; exact Int.ofNat_le
theorem lit_n16 (k : Nat) (h : k < 65536) : (OfNat.ofNat k : Int) = ((n16 (OfNat.ofNat k : UInt16) : Nat) : Int) := n16_lit k h
theorem beq_n16_lit (a : UInt16) (k : Nat) (h : k < 65536) : (((n16 a : Nat) : Int) == (no_index (OfNat.ofNat k) : Int)) = (a == (no_index (OfNat.ofNat k) : UInt16)) := by
  rw [lit_n16 k h]; exact beq_n16 a _
theorem bne_n16_lit (a : UInt16) (k : Nat) (h : k < 65536) : (((n16 a : Nat) : Int) != (no_index (OfNat.ofNat k) : Int)) = (a != (no_index (OfNat.ofNat k) : UInt16)) := by
  rw [lit_n16 k h]; exact bne_n16 a _
theorem declt_n16_lit (a : UInt16) (k : Nat) (h : k < 65536) : decide (((n16 a : Nat) : Int) < (no_index (OfNat.ofNat k) : Int)) = decide (a < (no_index (OfNat.ofNat k) : UInt16)) := by
  rw [lit_n16 k h]; exact declt_n16 a _
theorem declt_lit_n16 (a : UInt16) (k : Nat) (h : k < 65536) : decide ((no_index (OfNat.ofNat k) : Int) < ((n16 a : Nat) : Int)) = decide ((no_index (OfNat.ofNat k) : UInt16) < a) := by
  rw [lit_n16 k h]; exact declt_n16 _ a
theorem decle_n16_lit (a : UInt16) (k : Nat) (h : k < 65536) : decide (((n16 a : Nat) : Int) ≤ (no_index (OfNat.ofNat k) : Int)) = decide (a ≤ (no_index (OfNat.ofNat k) : UInt16)) := by
  rw [lit_n16 k h]; exact decle_n16 a _
theorem decle_lit_n16 (a : UInt16) (k : Nat) (h : k < 65536) : decide ((no_index (OfNat.ofNat k) : Int) ≤ ((n16 a : Nat) : Int)) = decide ((no_index (OfNat.ofNat k) : UInt16) ≤ a) := by
  rw [lit_n16 k h]; exact decle_n16 _ a

def n32 (x : UInt32) : Nat := x.toNat
theorem n32_lt (x : UInt32) : n32 x < 4294967296 := x.toNat_lt
theorem n32_inj (a b : UInt32) : n32 a = n32 b ↔ a = b := ⟨fun h => UInt32.toNat_inj.1 h, fun h => h ▸ rfl⟩
theorem n32_lit (k : Nat) (h : k < 4294967296) : (k : Int) = ((n32 (UInt32.ofNat k) : Nat) : Int) := by simp [n32, Nat.mod_eq_of_lt h]
theorem ofInt_n32 (x : UInt32) : BitVec.ofInt 32 ((n32 x : Nat) : Int) = x.toBitVec := by simp [n32, BitVec.ofInt_natCast]
theorem ofInt_lit32 (k : Nat) : BitVec.ofInt 32 (OfNat.ofNat k : Int) = (OfNat.ofNat k : UInt32).toBitVec := BitVec.ofInt_natCast 32 k
theorem wrap_n32 (x : Int) : IntKind.u32.wrap x = ((n32 (UInt32.ofBitVec (BitVec.ofInt 32 x)) : Nat) : Int) := by
  simp only [n32, IntKind.wrap, IntKind.bits, IntKind.signed, Bool.false_and, Bool.false_eq_true, if_false]
  show _ = (((BitVec.ofInt 32 x).toNat : Nat) : Int)
  rw [BitVec.toNat_ofInt]; omega
theorem bits_and_n32 (a b : UInt32) : bits .and .u32 ((n32 a : Nat) : Int) ((n32 b : Nat) : Int) = ((n32 (a &&& b) : Nat) : Int) := by
  show IntKind.u32.wrap (((BitVec.ofInt 32 ((n32 a : Nat) : Int) &&& BitVec.ofInt 32 ((n32 b : Nat) : Int)).toNat : Nat) : Int) = _
  rw [ofInt_n32, ofInt_n32, wrap_n32, BitVec.ofInt_natCast, BitVec.ofNat_toNat, BitVec.setWidth_eq]; rfl
theorem bits_and_n32_lit (a : UInt32) (k : Nat) : bits .and .u32 ((n32 a : Nat) : Int) (no_index (OfNat.ofNat k) : Int) = ((n32 (a &&& (no_index (OfNat.ofNat k) : UInt32)) : Nat) : Int) := by
  show IntKind.u32.wrap (((BitVec.ofInt 32 ((n32 a : Nat) : Int) &&& BitVec.ofInt 32 (no_index (OfNat.ofNat k) : Int)).toNat : Nat) : Int) = _
  rw [ofInt_n32, ofInt_lit32, wrap_n32, BitVec.ofInt_natCast, BitVec.ofNat_toNat, BitVec.setWidth_eq]; rfl
theorem bits_and_lit_n32 (b : UInt32) (k : Nat) : bits .and .u32 (no_index (OfNat.ofNat k) : Int) ((n32 b : Nat) : Int) = ((n32 ((no_index (OfNat.ofNat k) : UInt32) &&& b) : Nat) : Int) := by
  show IntKind.u32.wrap (((BitVec.ofInt 32 (no_index (OfNat.ofNat k) : Int) &&& BitVec.ofInt 32 ((n32 b : Nat) : Int)).toNat : Nat) : Int) = _
  rw [ofInt_lit32, ofInt_n32, wrap_n32, BitVec.ofInt_natCast, BitVec.ofNat_toNat, BitVec.setWidth_eq]; rfl
theorem bits_or_n32 (a b : UInt32) : bits .or .u32 ((n32 a : Nat) : Int) ((n32 b : Nat) : Int) = ((n32 (a ||| b) : Nat) : Int) := by
  show IntKind.u32.wrap (((BitVec.ofInt 32 ((n32 a : Nat) : Int) ||| BitVec.ofInt 32 ((n32 b : Nat) : Int)).toNat : Nat) : Int) = _
  rw [ofInt_n32, ofInt_n32, wrap_n32, BitVec.ofInt_natCast, BitVec.ofNat_toNat, BitVec.setWidth_eq]; rfl
theorem bits_or_n32_lit (a : UInt32) (k : Nat) : bits .or .u32 ((n32 a : Nat) : Int) (no_index (OfNat.ofNat k) : Int) = ((n32 (a ||| (no_index (OfNat.ofNat k) : UInt32)) : Nat) : Int) := by
  show IntKind.u32.wrap (((BitVec.ofInt 32 ((n32 a : Nat) : Int) ||| BitVec.ofInt 32 (no_index (OfNat.ofNat k) : Int)).toNat : Nat) : Int) = _
  rw [ofInt_n32, ofInt_lit32, wrap_n32, BitVec.ofInt_natCast, BitVec.ofNat_toNat, BitVec.setWidth_eq]; rfl
theorem bits_or_lit_n32 (b : UInt32) (k : Nat) : bits .or .u32 (no_index (OfNat.ofNat k) : Int) ((n32 b : Nat) : Int) = ((n32 ((no_index (OfNat.ofNat k) : UInt32) ||| b) : Nat) : Int) := by
  show IntKind.u32.wrap (((BitVec.ofInt 32 (no_index (OfNat.ofNat k) : Int) ||| BitVec.ofInt 32 ((n32 b : Nat) : Int)).toNat : Nat) : Int) = _
  rw [ofInt_lit32, ofInt_n32, wrap_n32, BitVec.ofInt_natCast, BitVec.ofNat_toNat, BitVec.setWidth_eq]; rfl
theorem bits_xor_n32 (a b : UInt32) : bits .xor .u32 ((n32 a : Nat) : Int) ((n32 b : Nat) : Int) = ((n32 (a ^^^ b) : Nat) : Int) := by
  show IntKind.u32.wrap (((BitVec.ofInt 32 ((n32 a : Nat) : Int) ^^^ BitVec.ofInt 32 ((n32 b : Nat) : Int)).toNat : Nat) : Int) = _
  rw [ofInt_n32, ofInt_n32, wrap_n32, BitVec.ofInt_natCast, BitVec.ofNat_toNat, BitVec.setWidth_eq]; rfl
theorem bits_xor_n32_lit (a : UInt32) (k : Nat) : bits .xor .u32 ((n32 a : Nat) : Int) (no_index (OfNat.ofNat k) : Int) = ((n32 (a ^^^ (no_index (OfNat.ofNat k) : UInt32)) : Nat) : Int) := by
  show IntKind.u32.wrap (((BitVec.ofInt 32 ((n32 a : Nat) : Int) ^^^ BitVec.ofInt 32 (no_index (OfNat.ofNat k) : Int)).toNat : Nat) : Int) = _
  rw [ofInt_n32, ofInt_lit32, wrap_n32, BitVec.ofInt_natCast, BitVec.ofNat_toNat, BitVec.setWidth_eq]; rfl
theorem bits_xor_lit_n32 (b : UInt32) (k : Nat) : bits .xor .u32 (no_index (OfNat.ofNat k) : Int) ((n32 b : Nat) : Int) = ((n32 ((no_index (OfNat.ofNat k) : UInt32) ^^^ b) : Nat) : Int) := by
  show IntKind.u32.wrap (((BitVec.ofInt 32 (no_index (OfNat.ofNat k) : Int) ^^^ BitVec.ofInt 32 ((n32 b : Nat) : Int)).toNat : Nat) : Int) = _
  rw [ofInt_lit32, ofInt_n32, wrap_n32, BitVec.ofInt_natCast, BitVec.ofNat_toNat, BitVec.setWidth_eq]; rfl
theorem bits_andNot_n32 (a b : UInt32) : bits .andNot .u32 ((n32 a : Nat) : Int) ((n32 b : Nat) : Int) = ((n32 (a &&& ~~~b) : Nat) : Int) := by
  show IntKind.u32.wrap (((BitVec.ofInt 32 ((n32 a : Nat) : Int) &&& ~~~(BitVec.ofInt 32 ((n32 b : Nat) : Int))).toNat : Nat) : Int) = _
  rw [ofInt_n32, ofInt_n32, wrap_n32, BitVec.ofInt_natCast, BitVec.ofNat_toNat, BitVec.setWidth_eq]; rfl
theorem bits_andNot_n32_lit (a : UInt32) (k : Nat) : bits .andNot .u32 ((n32 a : Nat) : Int) (no_index (OfNat.ofNat k) : Int) = ((n32 (a &&& ~~~(no_index (OfNat.ofNat k) : UInt32)) : Nat) : Int) := by
  show IntKind.u32.wrap (((BitVec.ofInt 32 ((n32 a : Nat) : Int) &&& ~~~(BitVec.ofInt 32 (no_index (OfNat.ofNat k) : Int))).toNat : Nat) : Int) = _
  rw [ofInt_n32, ofInt_lit32, wrap_n32, BitVec.ofInt_natCast, BitVec.ofNat_toNat, BitVec.setWidth_eq]; rfl
theorem bits_andNot_lit_n32 (b : UInt32) (k : Nat) : bits .andNot .u32 (no_index (OfNat.ofNat k) : Int) ((n32 b : Nat) : Int) = ((n32 ((no_index (OfNat.ofNat k) : UInt32) &&& ~~~b) : Nat) : Int) := by
  show IntKind.u32.wrap (((BitVec.ofInt 32 (no_index (OfNat.ofNat k) : Int) &&& ~~~(BitVec.ofInt 32 ((n32 b : Nat) : Int))).toNat : Nat) : Int) = _
  rw [ofInt_lit32, ofInt_n32, wrap_n32, BitVec.ofInt_natCast, BitVec.ofNat_toNat, BitVec.setWidth_eq]; rfl
theorem wrap_add_n32 (a b : UInt32) : IntKind.u32.wrap (((n32 a : Nat) : Int) + ((n32 b : Nat) : Int)) = ((n32 (a + b) : Nat) : Int) := by
  rw [wrap_n32, BitVec.ofInt_add, ofInt_n32, ofInt_n32]; rfl
theorem wrap_add_n32_lit (a : UInt32) (k : Nat) : IntKind.u32.wrap (((n32 a : Nat) : Int) + (no_index (OfNat.ofNat k) : Int)) = ((n32 (a + (no_index (OfNat.ofNat k) : UInt32)) : Nat) : Int) := by
  rw [wrap_n32, BitVec.ofInt_add, ofInt_n32, ofInt_lit32]; rfl
theorem wrap_add_lit_n32 (b : UInt32) (k : Nat) : IntKind.u32.wrap ((no_index (OfNat.ofNat k) : Int) + ((n32 b : Nat) : Int)) = ((n32 ((no_index (OfNat.ofNat k) : UInt32) + b) : Nat) : Int) := by
  rw [wrap_n32, BitVec.ofInt_add, ofInt_lit32, ofInt_n32]; rfl
theorem wrap_sub_n32 (a b : UInt32) : IntKind.u32.wrap (((n32 a : Nat) : Int) - ((n32 b : Nat) : Int)) = ((n32 (a - b) : Nat) : Int) := by
  rw [wrap_n32, bv_ofInt_sub, ofInt_n32, ofInt_n32]; rfl
theorem wrap_sub_n32_lit (a : UInt32) (k : Nat) : IntKind.u32.wrap (((n32 a : Nat) : Int) - (no_index (OfNat.ofNat k) : Int)) = ((n32 (a - (no_index (OfNat.ofNat k) : UInt32)) : Nat) : Int) := by
  rw [wrap_n32, bv_ofInt_sub, ofInt_n32, ofInt_lit32]; rfl
theorem wrap_sub_lit_n32 (b : UInt32) (k : Nat) : IntKind.u32.wrap ((no_index (OfNat.ofNat k) : Int) - ((n32 b : Nat) : Int)) = ((n32 ((no_index (OfNat.ofNat k) : UInt32) - b) : Nat) : Int) := by
  rw [wrap_n32, bv_ofInt_sub, ofInt_lit32, ofInt_n32]; rfl
theorem wrap_mul_n32 (a b : UInt32) : IntKind.u32.wrap (((n32 a : Nat) : Int) * ((n32 b : Nat) : Int)) = ((n32 (a * b) : Nat) : Int) := by
  rw [wrap_n32, BitVec.ofInt_mul, ofInt_n32, ofInt_n32]; rfl
theorem wrap_mul_n32_lit (a : UInt32) (k : Nat) : IntKind.u32.wrap (((n32 a : Nat) : Int) * (no_index (OfNat.ofNat k) : Int)) = ((n32 (a * (no_index (OfNat.ofNat k) : UInt32)) : Nat) : Int) := by
  rw [wrap_n32, BitVec.ofInt_mul, ofInt_n32, ofInt_lit32]; rfl
theorem wrap_mul_lit_n32 (b : UInt32) (k : Nat) : IntKind.u32.wrap ((no_index (OfNat.ofNat k) : Int) * ((n32 b : Nat) : Int)) = ((n32 ((no_index (OfNat.ofNat k) : UInt32) * b) : Nat) : Int) := by
  rw [wrap_n32, BitVec.ofInt_mul, ofInt_lit32, ofInt_n32]; rfl
theorem wrap_neg_n32 (a : UInt32) : IntKind.u32.wrap (-((n32 a : Nat) : Int)) = ((n32 (-a) : Nat) : Int) := by
  rw [wrap_n32, BitVec.ofInt_neg, ofInt_n32]; rfl
theorem shl_n32_lit (a : UInt32) (yk : IntKind) (k : Nat) (h : k < 32) : Op.shift .shl .u32 ((n32 a : Nat) : Int) yk (no_index (OfNat.ofNat k) : Int) = pure (.int .u32 ((n32 (a <<< (no_index (OfNat.ofNat k) : UInt32)) : Nat) : Int)) := by
  show Op.shift .shl .u32 ((n32 a : Nat) : Int) yk ((k : Nat) : Int) = _
  rw [shift_shl_any _ _ _ _ (Int.natCast_nonneg k)]
  show pure (Value.int _ (IntKind.u32.wrap (((n32 a : Nat) : Int) * 2 ^ min k 32))) = _
  rw [Nat.min_eq_left (by omega), wrap_n32]
  congr 3
  show (BitVec.ofInt 32 (((n32 a : Nat) : Int) * 2 ^ k)).toNat = (a <<< (no_index (OfNat.ofNat k) : UInt32)).toNat
  rw [UInt32.toNat_shiftLeft]
  have e : (((n32 a : Nat) : Int) * 2 ^ k : Int) = ((n32 a * 2 ^ k : Nat) : Int) := by push_cast; rfl
  have e2 : (OfNat.ofNat k : UInt32).toNat = k % 4294967296 := UInt32.toNat_ofNat
  rw [e, BitVec.ofInt_natCast, BitVec.toNat_ofNat, e2, Nat.shiftLeft_eq, Nat.mod_eq_of_lt (a := k) (b := 4294967296) (by omega), Nat.mod_eq_of_lt (a := k) (b := 32) h]; rfl
theorem shr_n32_lit (a : UInt32) (yk : IntKind) (k : Nat) (h : k < 32) : Op.shift .shr .u32 ((n32 a : Nat) : Int) yk (no_index (OfNat.ofNat k) : Int) = pure (.int .u32 ((n32 (a >>> (no_index (OfNat.ofNat k) : UInt32)) : Nat) : Int)) := by
  show Op.shift .shr .u32 ((n32 a : Nat) : Int) yk ((k : Nat) : Int) = _
  rw [shift_shr_any _ _ _ _ (Int.natCast_nonneg k)]
  show pure (Value.int _ (((n32 a : Nat) : Int) / 2 ^ min k 32)) = _
  rw [Nat.min_eq_left (by omega)]
  have e : (((n32 a : Nat) : Int) / 2 ^ k : Int) = ((n32 a / 2 ^ k : Nat) : Int) := by push_cast; rfl
  have e2 : (OfNat.ofNat k : UInt32).toNat = k % 4294967296 := UInt32.toNat_ofNat
  rw [e]; congr 2; congr 1
  show a.toNat / 2 ^ k = (a >>> (no_index (OfNat.ofNat k) : UInt32)).toNat
  rw [UInt32.toNat_shiftRight, e2, Nat.shiftRight_eq_div_pow, Nat.mod_eq_of_lt (a := k) (b := 4294967296) (by omega), Nat.mod_eq_of_lt (a := k) (b := 32) h]
def shl32 (a : UInt32) (j : Nat) : UInt32 := UInt32.ofNat (a.toNat * 2 ^ min j 32)
def shr32 (a : UInt32) (j : Nat) : UInt32 := UInt32.ofNat (a.toNat / 2 ^ min j 32)
theorem shl_n32_nat (a : UInt32) (yk : IntKind) (j : Nat) : Op.shift .shl .u32 ((n32 a : Nat) : Int) yk (j : Int) = pure (.int .u32 ((n32 (shl32 a j) : Nat) : Int)) := by
  rw [shift_shl_any _ _ _ _ (Int.natCast_nonneg j)]
  show pure (Value.int _ (IntKind.u32.wrap (((n32 a : Nat) : Int) * 2 ^ min j 32))) = _
  have e : (((n32 a : Nat) : Int) * 2 ^ min j 32 : Int) = ((n32 a * 2 ^ min j 32 : Nat) : Int) := by push_cast; rfl
  rw [wrap_n32, e, BitVec.ofInt_natCast]; rfl
theorem shr_n32_nat (a : UInt32) (yk : IntKind) (j : Nat) : Op.shift .shr .u32 ((n32 a : Nat) : Int) yk (j : Int) = pure (.int .u32 ((n32 (shr32 a j) : Nat) : Int)) := by
  rw [shift_shr_any _ _ _ _ (Int.natCast_nonneg j)]
  show pure (Value.int _ (((n32 a : Nat) : Int) / 2 ^ min j 32)) = _
  have e : (((n32 a : Nat) : Int) / 2 ^ min j 32 : Int) = ((n32 a / 2 ^ min j 32 : Nat) : Int) := by push_cast; rfl
  have hl : n32 a / 2 ^ min j 32 < 4294967296 := Nat.lt_of_le_of_lt (Nat.div_le_self _ _) (n32_lt a)
  rw [e]; congr 2; congr 1
  show n32 a / 2 ^ min j 32 = (UInt32.ofNat (a.toNat / 2 ^ min j 32)).toNat
  rw [UInt32.toNat_ofNat']; exact (Nat.mod_eq_of_lt hl).symm
theorem beq_n32 (a b : UInt32) : (((n32 a : Nat) : Int) == ((n32 b : Nat) : Int)) = (a == b) := by
  rw [Bool.eq_iff_iff, beq_iff_eq, beq_iff_eq, Int.ofNat_inj]; exact n32_inj a b
theorem bne_n32 (a b : UInt32) : (((n32 a : Nat) : Int) != ((n32 b : Nat) : Int)) = (a != b) := by
  show (!(((n32 a : Nat) : Int) == ((n32 b : Nat) : Int))) = !(a == b)
  rw [beq_n32]
theorem declt_n32 (a b : UInt32) : decide (((n32 a : Nat) : Int) < ((n32 b : Nat) : Int)) = decide (a < b) := by
  apply decide_eq_decide.2; rw [UInt32.lt_iff_toNat_lt]; exact Int.ofNat_lt
theorem decle_n32 (a b : UInt32) : decide (((n32 a : Nat) : Int) ≤ ((n32 b : Nat) : Int)) = decide (a ≤ b) := by
  apply decide_eq_decide.2; rw [UInt32.le_iff_toNat_le]; exact Int.ofNat_le
theorem lit_n32 (k : Nat) (h : k < 4294967296) : (OfNat.ofNat k : Int) = ((n32 (OfNat.ofNat k : UInt32) : Nat) : Int) := n32_lit k h
theorem beq_n32_lit (a : UInt32) (k : Nat) (h : k < 4294967296) : (((n32 a : Nat) : Int) == (no_index (OfNat.ofNat k) : Int)) = (a == (no_index (OfNat.ofNat k) : UInt32)) := by
  rw [lit_n32 k h]; exact beq_n32 a _
theorem bne_n32_lit (a : UInt32) (k : Nat) (h : k < 4294967296) : (((n32 a : Nat) : Int) != (no_index (OfNat.ofNat k) : Int)) = (a != (no_index (OfNat.ofNat k) : UInt32)) := by
  rw [lit_n32 k h]; exact bne_n32 a _
theorem declt_n32_lit (a : UInt32) (k : Nat) (h : k < 4294967296) : decide (((n32 a : Nat) : Int) < (no_index (OfNat.ofNat k) : Int)) = decide (a < (no_index (OfNat.ofNat k) : UInt32)) := by
  rw [lit_n32 k h]; exact declt_n32 a _
theorem declt_lit_n32 (a : UInt32) (k : Nat) (h : k < 4294967296) : decide ((no_index (OfNat.ofNat k) : Int) < ((n32 a : Nat) : Int)) = decide ((no_index (OfNat.ofNat k) : UInt32) < a) := by
  rw [lit_n32 k h]; exact declt_n32 _ a
theorem decle_n32_lit (a : UInt32) (k : Nat) (h : k < 4294967296) : decide (((n32 a : Nat) : Int) ≤ (no_index (OfNat.ofNat k) : Int)) = decide (a ≤ (no_index (OfNat.ofNat k) : UInt32)) := by
  rw [lit_n32 k h]; exact decle_n32 a _
theorem decle_lit_n32 (a : UInt32) (k : Nat) (h : k < 4294967296) : decide ((no_index (OfNat.ofNat k) : Int) ≤ ((n32 a : Nat) : Int)) = decide ((no_index (OfNat.ofNat k) : UInt32) ≤ a) := by
  rw [lit_n32 k h]; exact decle_n32 _ a

def n64 (x : UInt64) : Nat := x.toNat
theorem n64_lt (x : UInt64) : n64 x < 18446744073709551616 := x.toNat_lt
theorem n64_inj (a b : UInt64) : n64 a = n64 b ↔ a = b := ⟨fun h => UInt64.toNat_inj.1 h, fun h => h ▸ rfl⟩
theorem n64_lit (k : Nat) (h : k < 18446744073709551616) : (k : Int) = ((n64 (UInt64.ofNat k) : Nat) : Int) := by simp [n64, Nat.mod_eq_of_lt h]
theorem ofInt_n64 (x : UInt64) : BitVec.ofInt 64 ((n64 x : Nat) : Int) = x.toBitVec := by simp [n64, BitVec.ofInt_natCast]
theorem ofInt_lit64 (k : Nat) : BitVec.ofInt 64 (OfNat.ofNat k : Int) = (OfNat.ofNat k : UInt64).toBitVec := BitVec.ofInt_natCast 64 k
theorem wrap_n64 (x : Int) : IntKind.u64.wrap x = ((n64 (UInt64.ofBitVec (BitVec.ofInt 64 x)) : Nat) : Int) := by
  simp only [n64, IntKind.wrap, IntKind.bits, IntKind.signed, Bool.false_and, Bool.false_eq_true, if_false]
  show _ = (((BitVec.ofInt 64 x).toNat : Nat) : Int)
  rw [BitVec.toNat_ofInt]; omega
theorem bits_and_n64 (a b : UInt64) : bits .and .u64 ((n64 a : Nat) : Int) ((n64 b : Nat) : Int) = ((n64 (a &&& b) : Nat) : Int) := by
  show IntKind.u64.wrap (((BitVec.ofInt 64 ((n64 a : Nat) : Int) &&& BitVec.ofInt 64 ((n64 b : Nat) : Int)).toNat : Nat) : Int) = _
  rw [ofInt_n64, ofInt_n64, wrap_n64, BitVec.ofInt_natCast, BitVec.ofNat_toNat, BitVec.setWidth_eq]; rfl
theorem bits_and_n64_lit (a : UInt64) (k : Nat) : bits .and .u64 ((n64 a : Nat) : Int) (no_index (OfNat.ofNat k) : Int) = ((n64 (a &&& (no_index (OfNat.ofNat k) : UInt64)) : Nat) : Int) := by
  show IntKind.u64.wrap (((BitVec.ofInt 64 ((n64 a : Nat) : Int) &&& BitVec.ofInt 64 (no_index (OfNat.ofNat k) : Int)).toNat : Nat) : Int) = _
  rw [ofInt_n64, ofInt_lit64, wrap_n64, BitVec.ofInt_natCast, BitVec.ofNat_toNat, BitVec.setWidth_eq]; rfl
theorem bits_and_lit_n64 (b : UInt64) (k : Nat) : bits .and .u64 (no_index (OfNat.ofNat k) : Int) ((n64 b : Nat) : Int) = ((n64 ((no_index (OfNat.ofNat k) : UInt64) &&& b) : Nat) : Int) := by
  show IntKind.u64.wrap (((BitVec.ofInt 64 (no_index (OfNat.ofNat k) : Int) &&& BitVec.ofInt 64 ((n64 b : Nat) : Int)).toNat : Nat) : Int) = _
  rw [ofInt_lit64, ofInt_n64, wrap_n64, BitVec.ofInt_natCast, BitVec.ofNat_toNat, BitVec.setWidth_eq]; rfl
theorem bits_or_n64 (a b : UInt64) : bits .or .u64 ((n64 a : Nat) : Int) ((n64 b : Nat) : Int) = ((n64 (a ||| b) : Nat) : Int) := by
  show IntKind.u64.wrap (((BitVec.ofInt 64 ((n64 a : Nat) : Int) ||| BitVec.ofInt 64 ((n64 b : Nat) : Int)).toNat : Nat) : Int) = _
  rw [ofInt_n64, ofInt_n64, wrap_n64, BitVec.ofInt_natCast, BitVec.ofNat_toNat, BitVec.setWidth_eq]; rfl
theorem bits_or_n64_lit (a : UInt64) (k : Nat) : bits .or .u64 ((n64 a : Nat) : Int) (no_index (OfNat.ofNat k) : Int) = ((n64 (a ||| (no_index (OfNat.ofNat k) : UInt64)) : Nat) : Int) := by
  show IntKind.u64.wrap (((BitVec.ofInt 64 ((n64 a : Nat) : Int) ||| BitVec.ofInt 64 (no_index (OfNat.ofNat k) : Int)).toNat : Nat) : Int) = _
  rw [ofInt_n64, ofInt_lit64, wrap_n64, BitVec.ofInt_natCast, BitVec.ofNat_toNat, BitVec.setWidth_eq]; rfl
theorem bits_or_lit_n64 (b : UInt64) (k : Nat) : bits .or .u64 (no_index (OfNat.ofNat k) : Int) ((n64 b : Nat) : Int) = ((n64 ((no_index (OfNat.ofNat k) : UInt64) ||| b) : Nat) : Int) := by
  show IntKind.u64.wrap (((BitVec.ofInt 64 (no_index (OfNat.ofNat k) : Int) ||| BitVec.ofInt 64 ((n64 b : Nat) : Int)).toNat : Nat) : Int) = _
  rw [ofInt_lit64, ofInt_n64, wrap_n64, BitVec.ofInt_natCast, BitVec.ofNat_toNat, BitVec.setWidth_eq]; rfl
theorem bits_xor_n64 (a b : UInt64) : bits .xor .u64 ((n64 a : Nat) : Int) ((n64 b : Nat) : Int) = ((n64 (a ^^^ b) : Nat) : Int) := by
  show IntKind.u64.wrap (((BitVec.ofInt 64 ((n64 a : Nat) : Int) ^^^ BitVec.ofInt 64 ((n64 b : Nat) : Int)).toNat : Nat) : Int) = _
  rw [ofInt_n64, ofInt_n64, wrap_n64, BitVec.ofInt_natCast, BitVec.ofNat_toNat, BitVec.setWidth_eq]; rfl
theorem bits_xor_n64_lit (a : UInt64) (k : Nat) : bits .xor .u64 ((n64 a : Nat) : Int) (no_index (OfNat.ofNat k) : Int) = ((n64 (a ^^^ (no_index (OfNat.ofNat k) : UInt64)) : Nat) : Int) := by
  show IntKind.u64.wrap (((BitVec.ofInt 64 ((n64 a : Nat) : Int) ^^^ BitVec.ofInt 64 (no_index (OfNat.ofNat k) : Int)).toNat : Nat) : Int) = _
  rw [ofInt_n64, ofInt_lit64, wrap_n64, BitVec.ofInt_natCast, BitVec.ofNat_toNat, BitVec.setWidth_eq]; rfl
theorem bits_xor_lit_n64 (b : UInt64) (k : Nat) : bits .xor .u64 (no_index (OfNat.ofNat k) : Int) ((n64 b : Nat) : Int) = ((n64 ((no_index (OfNat.ofNat k) : UInt64) ^^^ b) : Nat) : Int) := by
  show IntKind.u64.wrap (((BitVec.ofInt 64 (no_index (OfNat.ofNat k) : Int) ^^^ BitVec.ofInt 64 ((n64 b : Nat) : Int)).toNat : Nat) : Int) = _
  rw [ofInt_lit64, ofInt_n64, wrap_n64, BitVec.ofInt_natCast, BitVec.ofNat_toNat, BitVec.setWidth_eq]; rfl
theorem bits_andNot_n64 (a b : UInt64) : bits .andNot .u64 ((n64 a : Nat) : Int) ((n64 b : Nat) : Int) = ((n64 (a &&& ~~~b) : Nat) : Int) := by
  show IntKind.u64.wrap (((BitVec.ofInt 64 ((n64 a : Nat) : Int) &&& ~~~(BitVec.ofInt 64 ((n64 b : Nat) : Int))).toNat : Nat) : Int) = _
  rw [ofInt_n64, ofInt_n64, wrap_n64, BitVec.ofInt_natCast, BitVec.ofNat_toNat, BitVec.setWidth_eq]; rfl
theorem bits_andNot_n64_lit (a : UInt64) (k : Nat) : bits .andNot .u64 ((n64 a : Nat) : Int) (no_index (OfNat.ofNat k) : Int) = ((n64 (a &&& ~~~(no_index (OfNat.ofNat k) : UInt64)) : Nat) : Int) := by
  show IntKind.u64.wrap (((BitVec.ofInt 64 ((n64 a : Nat) : Int) &&& ~~~(BitVec.ofInt 64 (no_index (OfNat.ofNat k) : Int))).toNat : Nat) : Int) = _
  rw [ofInt_n64, ofInt_lit64, wrap_n64, BitVec.ofInt_natCast, BitVec.ofNat_toNat, BitVec.setWidth_eq]; rfl
theorem bits_andNot_lit_n64 (b : UInt64) (k : Nat) : bits .andNot .u64 (no_index (OfNat.ofNat k) : Int) ((n64 b : Nat) : Int) = ((n64 ((no_index (OfNat.ofNat k) : UInt64) &&& ~~~b) : Nat) : Int) := by
  show IntKind.u64.wrap (((BitVec.ofInt 64 (no_index (OfNat.ofNat k) : Int) &&& ~~~(BitVec.ofInt 64 ((n64 b : Nat) : Int))).toNat : Nat) : Int) = _
  rw [ofInt_lit64, ofInt_n64, wrap_n64, BitVec.ofInt_natCast, BitVec.ofNat_toNat, BitVec.setWidth_eq]; rfl
theorem wrap_add_n64 (a b : UInt64) : IntKind.u64.wrap (((n64 a : Nat) : Int) + ((n64 b : Nat) : Int)) = ((n64 (a + b) : Nat) : Int) := by
  rw [wrap_n64, BitVec.ofInt_add, ofInt_n64, ofInt_n64]; rfl
theorem wrap_add_n64_lit (a : UInt64) (k : Nat) : IntKind.u64.wrap (((n64 a : Nat) : Int) + (no_index (OfNat.ofNat k) : Int)) = ((n64 (a + (no_index (OfNat.ofNat k) : UInt64)) : Nat) : Int) := by
  rw [wrap_n64, BitVec.ofInt_add, ofInt_n64, ofInt_lit64]; rfl
theorem wrap_add_lit_n64 (b : UInt64) (k : Nat) : IntKind.u64.wrap ((no_index (OfNat.ofNat k) : Int) + ((n64 b : Nat) : Int)) = ((n64 ((no_index (OfNat.ofNat k) : UInt64) + b) : Nat) : Int) := by
  rw [wrap_n64, BitVec.ofInt_add, ofInt_lit64, ofInt_n64]; rfl
theorem wrap_sub_n64 (a b : UInt64) : IntKind.u64.wrap (((n64 a : Nat) : Int) - ((n64 b : Nat) : Int)) = ((n64 (a - b) : Nat) : Int) := by
  rw [wrap_n64, bv_ofInt_sub, ofInt_n64, ofInt_n64]; rfl
theorem wrap_sub_n64_lit (a : UInt64) (k : Nat) : IntKind.u64.wrap (((n64 a : Nat) : Int) - (no_index (OfNat.ofNat k) : Int)) = ((n64 (a - (no_index (OfNat.ofNat k) : UInt64)) : Nat) : Int) := by
  rw [wrap_n64, bv_ofInt_sub, ofInt_n64, ofInt_lit64]; rfl
theorem wrap_sub_lit_n64 (b : UInt64) (k : Nat) : IntKind.u64.wrap ((no_index (OfNat.ofNat k) : Int) - ((n64 b : Nat) : Int)) = ((n64 ((no_index (OfNat.ofNat k) : UInt64) - b) : Nat) : Int) := by
  rw [wrap_n64, bv_ofInt_sub, ofInt_lit64, ofInt_n64]; rfl
theorem wrap_mul_n64 (a b : UInt64) : IntKind.u64.wrap (((n64 a : Nat) : Int) * ((n64 b : Nat) : Int)) = ((n64 (a * b) : Nat) : Int) := by
  rw [wrap_n64, BitVec.ofInt_mul, ofInt_n64, ofInt_n64]; rfl
theorem wrap_mul_n64_lit (a : UInt64) (k : Nat) : IntKind.u64.wrap (((n64 a : Nat) : Int) * (no_index (OfNat.ofNat k) : Int)) = ((n64 (a * (no_index (OfNat.ofNat k) : UInt64)) : Nat) : Int) := by
  rw [wrap_n64, BitVec.ofInt_mul, ofInt_n64, ofInt_lit64]; rfl
theorem wrap_mul_lit_n64 (b : UInt64) (k : Nat) : IntKind.u64.wrap ((no_index (OfNat.ofNat k) : Int) * ((n64 b : Nat) : Int)) = ((n64 ((no_index (OfNat.ofNat k) : UInt64) * b) : Nat) : Int) := by
  rw [wrap_n64, BitVec.ofInt_mul, ofInt_lit64, ofInt_n64]; rfl
theorem wrap_neg_n64 (a : UInt64) : IntKind.u64.wrap (-((n64 a : Nat) : Int)) = ((n64 (-a) : Nat) : Int) := by
  rw [wrap_n64, BitVec.ofInt_neg, ofInt_n64]; rfl
theorem shl_n64_lit (a : UInt64) (yk : IntKind) (k : Nat) (h : k < 64) : Op.shift .shl .u64 ((n64 a : Nat) : Int) yk (no_index (OfNat.ofNat k) : Int) = pure (.int .u64 ((n64 (a <<< (no_index (OfNat.ofNat k) : UInt64)) : Nat) : Int)) := by
  show Op.shift .shl .u64 ((n64 a : Nat) : Int) yk ((k : Nat) : Int) = _
  rw [shift_shl_any _ _ _ _ (Int.natCast_nonneg k)]
  show pure (Value.int _ (IntKind.u64.wrap (((n64 a : Nat) : Int) * 2 ^ min k 64))) = _
  rw [Nat.min_eq_left (by omega), wrap_n64]
  congr 3
  show (BitVec.ofInt 64 (((n64 a : Nat) : Int) * 2 ^ k)).toNat = (a <<< (no_index (OfNat.ofNat k) : UInt64)).toNat
  rw [UInt64.toNat_shiftLeft]
  have e : (((n64 a : Nat) : Int) * 2 ^ k : Int) = ((n64 a * 2 ^ k : Nat) : Int) := by push_cast; rfl
  have e2 : (OfNat.ofNat k : UInt64).toNat = k % 18446744073709551616 := UInt64.toNat_ofNat
  rw [e, BitVec.ofInt_natCast, BitVec.toNat_ofNat, e2, Nat.shiftLeft_eq, Nat.mod_eq_of_lt (a := k) (b := 18446744073709551616) (by omega), Nat.mod_eq_of_lt (a := k) (b := 64) h]; rfl
theorem shr_n64_lit (a : UInt64) (yk : IntKind) (k : Nat) (h : k < 64) : Op.shift .shr .u64 ((n64 a : Nat) : Int) yk (no_index (OfNat.ofNat k) : Int) = pure (.int .u64 ((n64 (a >>> (no_index (OfNat.ofNat k) : UInt64)) : Nat) : Int)) := by
  show Op.shift .shr .u64 ((n64 a : Nat) : Int) yk ((k : Nat) : Int) = _
  rw [shift_shr_any _ _ _ _ (Int.natCast_nonneg k)]
  show pure (Value.int _ (((n64 a : Nat) : Int) / 2 ^ min k 64)) = _
  rw [Nat.min_eq_left (by omega)]
  have e : (((n64 a : Nat) : Int) / 2 ^ k : Int) = ((n64 a / 2 ^ k : Nat) : Int) := by push_cast; rfl
  have e2 : (OfNat.ofNat k : UInt64).toNat = k % 18446744073709551616 := UInt64.toNat_ofNat
  rw [e]; congr 2; congr 1
  show a.toNat / 2 ^ k = (a >>> (no_index (OfNat.ofNat k) : UInt64)).toNat
  rw [UInt64.toNat_shiftRight, e2, Nat.shiftRight_eq_div_pow, Nat.mod_eq_of_lt (a := k) (b := 18446744073709551616) (by omega), Nat.mod_eq_of_lt (a := k) (b := 64) h]
def shl64 (a : UInt64) (j : Nat) : UInt64 := UInt64.ofNat (a.toNat * 2 ^ min j 64)
def shr64 (a : UInt64) (j : Nat) : UInt64 := UInt64.ofNat (a.toNat / 2 ^ min j 64)
theorem shl_n64_nat (a : UInt64) (yk : IntKind) (j : Nat) : Op.shift .shl .u64 ((n64 a : Nat) : Int) yk (j : Int) = pure (.int .u64 ((n64 (shl64 a j) : Nat) : Int)) := by
  rw [shift_shl_any _ _ _ _ (Int.natCast_nonneg j)]
  show pure (Value.int _ (IntKind.u64.wrap (((n64 a : Nat) : Int) * 2 ^ min j 64))) = _
  have e : (((n64 a : Nat) : Int) * 2 ^ min j 64 : Int) = ((n64 a * 2 ^ min j 64 : Nat) : Int) := by push_cast; rfl
  rw [wrap_n64, e, BitVec.ofInt_natCast]; rfl
theorem shr_n64_nat (a : UInt64) (yk : IntKind) (j : Nat) : Op.shift .shr .u64 ((n64 a : Nat) : Int) yk (j : Int) = pure (.int .u64 ((n64 (shr64 a j) : Nat) : Int)) := by
  rw [shift_shr_any _ _ _ _ (Int.natCast_nonneg j)]
  show pure (Value.int _ (((n64 a : Nat) : Int) / 2 ^ min j 64)) = _
  have e : (((n64 a : Nat) : Int) / 2 ^ min j 64 : Int) = ((n64 a / 2 ^ min j 64 : Nat) : Int) := by push_cast; rfl
  have hl : n64 a / 2 ^ min j 64 < 18446744073709551616 := Nat.lt_of_le_of_lt (Nat.div_le_self _ _) (n64_lt a)
  rw [e]; congr 2; congr 1
  show n64 a / 2 ^ min j 64 = (UInt64.ofNat (a.toNat / 2 ^ min j 64)).toNat
  rw [UInt64.toNat_ofNat']; exact (Nat.mod_eq_of_lt hl).symm
theorem beq_n64 (a b : UInt64) : (((n64 a : Nat) : Int) == ((n64 b : Nat) : Int)) = (a == b) := by
  rw [Bool.eq_iff_iff, beq_iff_eq, beq_iff_eq, Int.ofNat_inj]; exact n64_inj a b
theorem bne_n64 (a b : UInt64) : (((n64 a : Nat) : Int) != ((n64 b : Nat) : Int)) = (a != b) := by
  show (!(((n64 a : Nat) : Int) == ((n64 b : Nat) : Int))) = !(a == b)
  rw [beq_n64]
theorem declt_n64 (a b : UInt64) : decide (((n64 a : Nat) : Int) < ((n64 b : Nat) : Int)) = decide (a < b) := by
  apply decide_eq_decide.2; rw [UInt64.lt_iff_toNat_lt]; exact Int.ofNat_lt
theorem decle_n64 (a b : UInt64) : decide (((n64 a : Nat) : Int) ≤ ((n64 b : Nat) : Int)) = decide (a ≤ b) := by
  apply decide_eq_decide.2; rw [UInt64.le_iff_toNat_le]; exact Int.ofNat_le
theorem lit_n64 (k : Nat) (h : k < 18446744073709551616) : (OfNat.ofNat k : Int) = ((n64 (OfNat.ofNat k : UInt64) : Nat) : Int) := n64_lit k h
theorem beq_n64_lit (a : UInt64) (k : Nat) (h : k < 18446744073709551616) : (((n64 a : Nat) : Int) == (no_index (OfNat.ofNat k) : Int)) = (a == (no_index (OfNat.ofNat k) : UInt64)) := by
  rw [lit_n64 k h]; exact beq_n64 a _
theorem bne_n64_lit (a : UInt64) (k : Nat) (h : k < 18446744073709551616) : (((n64 a : Nat) : Int) != (no_index (OfNat.ofNat k) : Int)) = (a != (no_index (OfNat.ofNat k) : UInt64)) := by
  rw [lit_n64 k h]; exact bne_n64 a _
theorem declt_n64_lit (a : UInt64) (k : Nat) (h : k < 18446744073709551616) : decide (((n64 a : Nat) : Int) < (no_index (OfNat.ofNat k) : Int)) = decide (a < (no_index (OfNat.ofNat k) : UInt64)) := by
  rw [lit_n64 k h]; exact declt_n64 a _
theorem declt_lit_n64 (a : UInt64) (k : Nat) (h : k < 18446744073709551616) : decide ((no_index (OfNat.ofNat k) : Int) < ((n64 a : Nat) : Int)) = decide ((no_index (OfNat.ofNat k) : UInt64) < a) := by
  rw [lit_n64 k h]; exact declt_n64 _ a
theorem decle_n64_lit (a : UInt64) (k : Nat) (h : k < 18446744073709551616) : decide (((n64 a : Nat) : Int) ≤ (no_index (OfNat.ofNat k) : Int)) = decide (a ≤ (no_index (OfNat.ofNat k) : UInt64)) := by
  rw [lit_n64 k h]; exact decle_n64 a _
theorem decle_lit_n64 (a : UInt64) (k : Nat) (h : k < 18446744073709551616) : decide ((no_index (OfNat.ofNat k) : Int) ≤ ((n64 a : Nat) : Int)) = decide ((no_index (OfNat.ofNat k) : UInt64) ≤ a) := by
  rw [lit_n64 k h]; exact decle_n64 _ a

theorem wrap_self_n8 (a : UInt8) : IntKind.u8.wrap ((n8 a : Nat) : Int) = ((n8 a : Nat) : Int) := by
  rw [wrap_n8, ofInt_n8]
theorem wrap_n16_of_n8 (a : UInt8) : IntKind.u16.wrap ((n8 a : Nat) : Int) = ((n16 a.toUInt16 : Nat) : Int) := by
  have hl := n8_lt a
  rw [wrap_n16, BitVec.ofInt_natCast]; congr 1
  show (BitVec.ofNat 16 (n8 a)).toNat = a.toUInt16.toNat
  rw [BitVec.toNat_ofNat, UInt8.toNat_toUInt16, Nat.mod_eq_of_lt (by omega)]; rfl
theorem wrap_n32_of_n8 (a : UInt8) : IntKind.u32.wrap ((n8 a : Nat) : Int) = ((n32 a.toUInt32 : Nat) : Int) := by
  have hl := n8_lt a
  rw [wrap_n32, BitVec.ofInt_natCast]; congr 1
  show (BitVec.ofNat 32 (n8 a)).toNat = a.toUInt32.toNat
  rw [BitVec.toNat_ofNat, UInt8.toNat_toUInt32, Nat.mod_eq_of_lt (by omega)]; rfl
theorem wrap_n64_of_n8 (a : UInt8) : IntKind.u64.wrap ((n8 a : Nat) : Int) = ((n64 a.toUInt64 : Nat) : Int) := by
  have hl := n8_lt a
  rw [wrap_n64, BitVec.ofInt_natCast]; congr 1
  show (BitVec.ofNat 64 (n8 a)).toNat = a.toUInt64.toNat
  rw [BitVec.toNat_ofNat, UInt8.toNat_toUInt64, Nat.mod_eq_of_lt (by omega)]; rfl
theorem wrap_i64_of_n8 (a : UInt8) : IntKind.i64.wrap ((n8 a : Nat) : Int) = ((n8 a : Nat) : Int) := by
  have := n8_lt a
  exact IntWalk.i64_in _ (by omega)
theorem wrap_n8_of_n16 (a : UInt16) : IntKind.u8.wrap ((n16 a : Nat) : Int) = ((n8 a.toUInt8 : Nat) : Int) := by
  rw [wrap_n8, BitVec.ofInt_natCast]; congr 1
theorem wrap_self_n16 (a : UInt16) : IntKind.u16.wrap ((n16 a : Nat) : Int) = ((n16 a : Nat) : Int) := by
  rw [wrap_n16, ofInt_n16]
theorem wrap_n32_of_n16 (a : UInt16) : IntKind.u32.wrap ((n16 a : Nat) : Int) = ((n32 a.toUInt32 : Nat) : Int) := by
  have hl := n16_lt a
  rw [wrap_n32, BitVec.ofInt_natCast]; congr 1
  show (BitVec.ofNat 32 (n16 a)).toNat = a.toUInt32.toNat
  rw [BitVec.toNat_ofNat, UInt16.toNat_toUInt32, Nat.mod_eq_of_lt (by omega)]; rfl
theorem wrap_n64_of_n16 (a : UInt16) : IntKind.u64.wrap ((n16 a : Nat) : Int) = ((n64 a.toUInt64 : Nat) : Int) := by
  have hl := n16_lt a
  rw [wrap_n64, BitVec.ofInt_natCast]; congr 1
  show (BitVec.ofNat 64 (n16 a)).toNat = a.toUInt64.toNat
  rw [BitVec.toNat_ofNat, UInt16.toNat_toUInt64, Nat.mod_eq_of_lt (by omega)]; rfl
theorem wrap_i64_of_n16 (a : UInt16) : IntKind.i64.wrap ((n16 a : Nat) : Int) = ((n16 a : Nat) : Int) := by
  have := n16_lt a
  exact IntWalk.i64_in _ (by omega)
theorem wrap_n8_of_n32 (a : UInt32) : IntKind.u8.wrap ((n32 a : Nat) : Int) = ((n8 a.toUInt8 : Nat) : Int) := by
  rw [wrap_n8, BitVec.ofInt_natCast]; congr 1
theorem wrap_n16_of_n32 (a : UInt32) : IntKind.u16.wrap ((n32 a : Nat) : Int) = ((n16 a.toUInt16 : Nat) : Int) := by
  rw [wrap_n16, BitVec.ofInt_natCast]; congr 1
theorem wrap_self_n32 (a : UInt32) : IntKind.u32.wrap ((n32 a : Nat) : Int) = ((n32 a : Nat) : Int) := by
  rw [wrap_n32, ofInt_n32]
theorem wrap_n64_of_n32 (a : UInt32) : IntKind.u64.wrap ((n32 a : Nat) : Int) = ((n64 a.toUInt64 : Nat) : Int) := by
  have hl := n32_lt a
  rw [wrap_n64, BitVec.ofInt_natCast]; congr 1
  show (BitVec.ofNat 64 (n32 a)).toNat = a.toUInt64.toNat
  rw [BitVec.toNat_ofNat, UInt32.toNat_toUInt64, Nat.mod_eq_of_lt (by omega)]; rfl
theorem wrap_i64_of_n32 (a : UInt32) : IntKind.i64.wrap ((n32 a : Nat) : Int) = ((n32 a : Nat) : Int) := by
  have := n32_lt a
  exact IntWalk.i64_in _ (by omega)
theorem wrap_n8_of_n64 (a : UInt64) : IntKind.u8.wrap ((n64 a : Nat) : Int) = ((n8 a.toUInt8 : Nat) : Int) := by
  rw [wrap_n8, BitVec.ofInt_natCast]; congr 1
theorem wrap_n16_of_n64 (a : UInt64) : IntKind.u16.wrap ((n64 a : Nat) : Int) = ((n16 a.toUInt16 : Nat) : Int) := by
  rw [wrap_n16, BitVec.ofInt_natCast]; congr 1
theorem wrap_n32_of_n64 (a : UInt64) : IntKind.u32.wrap ((n64 a : Nat) : Int) = ((n32 a.toUInt32 : Nat) : Int) := by
  rw [wrap_n32, BitVec.ofInt_natCast]; congr 1
theorem wrap_self_n64 (a : UInt64) : IntKind.u64.wrap ((n64 a : Nat) : Int) = ((n64 a : Nat) : Int) := by
  rw [wrap_n64, ofInt_n64]
attribute [go_sem high] bits_and_n8 bits_and_n8_lit bits_and_lit_n8 bits_or_n8 bits_or_n8_lit bits_or_lit_n8 bits_xor_n8 bits_xor_n8_lit
attribute [go_sem high] bits_xor_lit_n8 bits_andNot_n8 bits_andNot_n8_lit bits_andNot_lit_n8 wrap_add_n8 wrap_add_n8_lit wrap_add_lit_n8 wrap_sub_n8
attribute [go_sem high] wrap_sub_n8_lit wrap_sub_lit_n8 wrap_mul_n8 wrap_mul_n8_lit wrap_mul_lit_n8 wrap_neg_n8 beq_n8 bne_n8
attribute [go_sem high] declt_n8 decle_n8 beq_n8_lit bne_n8_lit declt_n8_lit declt_lit_n8 decle_n8_lit decle_lit_n8
attribute [go_sem high] bits_and_n16 bits_and_n16_lit bits_and_lit_n16 bits_or_n16 bits_or_n16_lit bits_or_lit_n16 bits_xor_n16 bits_xor_n16_lit
attribute [go_sem high] bits_xor_lit_n16 bits_andNot_n16 bits_andNot_n16_lit bits_andNot_lit_n16 wrap_add_n16 wrap_add_n16_lit wrap_add_lit_n16 wrap_sub_n16
attribute [go_sem high] wrap_sub_n16_lit wrap_sub_lit_n16 wrap_mul_n16 wrap_mul_n16_lit wrap_mul_lit_n16 wrap_neg_n16 beq_n16 bne_n16
attribute [go_sem high] declt_n16 decle_n16 beq_n16_lit bne_n16_lit declt_n16_lit declt_lit_n16 decle_n16_lit decle_lit_n16
attribute [go_sem high] bits_and_n32 bits_and_n32_lit bits_and_lit_n32 bits_or_n32 bits_or_n32_lit bits_or_lit_n32 bits_xor_n32 bits_xor_n32_lit
attribute [go_sem high] bits_xor_lit_n32 bits_andNot_n32 bits_andNot_n32_lit bits_andNot_lit_n32 wrap_add_n32 wrap_add_n32_lit wrap_add_lit_n32 wrap_sub_n32
attribute [go_sem high] wrap_sub_n32_lit wrap_sub_lit_n32 wrap_mul_n32 wrap_mul_n32_lit wrap_mul_lit_n32 wrap_neg_n32 beq_n32 bne_n32
attribute [go_sem high] declt_n32 decle_n32 beq_n32_lit bne_n32_lit declt_n32_lit declt_lit_n32 decle_n32_lit decle_lit_n32
attribute [go_sem high] bits_and_n64 bits_and_n64_lit bits_and_lit_n64 bits_or_n64 bits_or_n64_lit bits_or_lit_n64 bits_xor_n64 bits_xor_n64_lit
attribute [go_sem high] bits_xor_lit_n64 bits_andNot_n64 bits_andNot_n64_lit bits_andNot_lit_n64 wrap_add_n64 wrap_add_n64_lit wrap_add_lit_n64 wrap_sub_n64
attribute [go_sem high] wrap_sub_n64_lit wrap_sub_lit_n64 wrap_mul_n64 wrap_mul_n64_lit wrap_mul_lit_n64 wrap_neg_n64 beq_n64 bne_n64
attribute [go_sem high] declt_n64 decle_n64 beq_n64_lit bne_n64_lit declt_n64_lit declt_lit_n64 decle_n64_lit decle_lit_n64
attribute [go_sem high] wrap_self_n8 wrap_n16_of_n8 wrap_n32_of_n8 wrap_n64_of_n8 wrap_i64_of_n8 wrap_n8_of_n16 wrap_self_n16 wrap_n32_of_n16
attribute [go_sem high] wrap_n64_of_n16 wrap_i64_of_n16 wrap_n8_of_n32 wrap_n16_of_n32 wrap_self_n32 wrap_n64_of_n32 wrap_i64_of_n32 wrap_n8_of_n64
attribute [go_sem high] wrap_n16_of_n64 wrap_n32_of_n64 wrap_self_n64
attribute [go_sem ↓ high] shl_n8_lit shr_n8_lit shl_n8_nat shr_n8_nat shl_n16_lit shr_n16_lit shl_n16_nat shr_n16_nat
attribute [go_sem ↓ high] shl_n32_lit shr_n32_lit shl_n32_nat shr_n32_nat shl_n64_lit shr_n64_lit shl_n64_nat shr_n64_nat
end Go.Proofs.YthigbggacgiamaaDoor

namespace Go.Proofs.YthigbggacgiamaaDoor
open Go.RowKit Go.Proofs

abbrev U8 (x : UInt8) : Value := .int .u8 (n8 x)
def nth (l : List UInt8) (i : Nat) : UInt8 := l.getD i 0
def arr (l : List UInt8) : Array Value := (l.map U8).toArray
theorem arr_size (l : List UInt8) : (arr l).size = l.length := by simp [arr]
theorem arr_get (l : List UInt8) (i : Nat) (h : i < l.length) : (arr l)[i]? = some (.int .u8 (n8 (nth l i))) := by
  simp [arr, h, nth]
theorem arr_set (l : List UInt8) (i : Nat) (x : UInt8) : (arr l).setIfInBounds i (.int .u8 (n8 x)) = arr (l.set i x) := by
  simp [arr]
theorem arr_one (l : List UInt8) : (arr l).all (·.oneCell') = true := by simp [arr, Value.oneCell']
theorem arr_zeros (n : Nat) : (List.replicate n (Value.int .u8 0)).toArray = arr (List.replicate n 0) := by
  simp only [arr, List.map_replicate, U8]; rfl

/-- A fact kept from the walk. -/
structure Hd (p : Prop) : Prop where
  out : p
theorem hd {p : Prop} (h : p) : Hd p := ⟨h⟩

/-- A loop's state behind k rounds. -/
def iter {α : Type} (f : Nat → α → α) : Nat → α → α
  | 0, s => s
  | k + 1, s => f k (iter f k s)
theorem iter_keeps {α β : Type} (f : Nat → α → α) (g : α → β) (h : ∀ k s, g (f k s) = g s) (k : Nat) (s : α) : g (iter f k s) = g s := by
  induction k with
  | zero => rfl
  | succ k ih => rw [iter, h, ih]

/-- Block g is just the cells cs of element type t, none frozen. -/
structure Blk (w : World) (g : Nat) (t : TypeId) (cs : Array Value) : Prop where
  is : w.heap[g]? = some (.cells cs t (0, 0))
section
variable {w w' : World} {g : Nat} {t : TypeId} {cs : Array Value}
theorem Blk.lt (h : Blk w g t cs) : g < w.heap.size := by
  rcases Nat.lt_or_ge g w.heap.size with hlt | hge
  · exact hlt
  · have h := h.is; rw [Array.getElem?_eq_none hge] at h; cases h
theorem Blk.cell (h : Blk w g t cs) (i : Nat) : w.cell? ⟨g, i, none⟩ = cs[i]? := cell_of_row w g i cs t (0, 0) h.is
theorem Blk.frozen (h : Blk w g t cs) (i : Nat) : w.frozen? ⟨g, i, none⟩ = false := by
  have h := h.is
  simp [World.frozen?, h]
theorem Blk.nu {w : World} {t : TypeId} {cs : Array Value} {g : Nat} (h : g = w.heap.size) : Blk (w.alloc (.cells cs t)) g t cs := by subst h; exact ⟨heap_alloc_new w _⟩
theorem Blk.drew (h : Blk w g t cs) : Blk w.drew g t cs := ⟨h.is⟩
theorem Blk.drewN (h : Blk w g t cs) (n : Nat) : Blk (w.drewN n) g t cs := ⟨h.is⟩
theorem Blk.alloc (h : Blk w g t cs) (o : Obj) : Blk (w.alloc o) g t cs := ⟨(Below.heap_alloc w o g h.lt).trans h.is⟩
theorem Blk.set_ (h : Blk w g t cs) (i : Nat) (u : Value) : Blk (w.setCell ⟨g, i, none⟩ u) g t (cs.setIfInBounds i u) := by
  have h := h.is
  exact ⟨by simp [World.setCell, Array.getElem?_modify, h]⟩
theorem Blk.far (h : Blk w g t cs) {p : Addr} (hp : g ≠ p.block) (u : Value) : Blk (w.setCell p u) g t cs := ⟨(Below.heap_setCell w p u g hp).trans h.is⟩
theorem Blk.setRow (h : Blk w g t cs) (cs' : Array Value) : Blk (w.setRow g cs') g t cs' := by
  have h := h.is
  exact ⟨by simp [World.setRow, Array.getElem?_modify, h]⟩
theorem Blk.farRow {g' : Nat} (h : Blk w g t cs) (hp : g ≠ g') (cs' : Array Value) : Blk (w.setRow g' cs') g t cs := by
  have h := h.is
  refine ⟨?_⟩
  simp only [World.setRow, Array.getElem?_modify]
  rw [if_neg (by omega)]; exact h
theorem Blk.below {B : Nat} (h : Blk w g t cs) (hb : Below B w w') (hg : g < B) : Blk w' g t cs := ⟨(hb.block g hg).trans h.is⟩
theorem Blk.grown {row : Option Nat} (h : Blk w g t cs) (hb : w.grownBy w' row) (hg : some g ≠ row) : Blk w' g t cs := ⟨(hb.block g h.lt hg).trans h.is⟩
theorem Blk.arr_cell {l : List UInt8} (h : Blk w g t (arr l)) (i : Nat) (hi : i < l.length) : w.cell? ⟨g, i, none⟩ = some (.int .u8 (n8 (nth l i))) := by rw [h.cell, arr_get l i hi]
theorem Blk.arr_set {l : List UInt8} (h : Blk w g t (arr l)) (i : Nat) (x : UInt8) : Blk (w.setCell ⟨g, i, none⟩ (.int .u8 (n8 x))) g t (arr (l.set i x)) := by
  have := h.set_ i (.int .u8 (n8 x)); rwa [YthigbggacgiamaaDoor.arr_set] at this
theorem Blk.ne_ {g' : Nat} {t' : TypeId} {cs' : Array Value} (h : Blk w g t cs) (h' : Blk w g' t' cs') (hne : t ≠ t') : g ≠ g' := by
  rintro rfl
  have h := h.is
  rw [h'.is] at h
  injection h with h
  injection h with _ ht
  exact hne ht.symm
end
theorem below_setRow {B : Nat} {a w : World} (h : Below B a w) {g : Nat} (hg : B ≤ g) (cs : Array Value) : Below B a (w.setRow g cs) :=
  h.trans ⟨rfl, rfl, rfl, by simp, fun k hk => by
    simp only [World.setRow, Array.getElem?_modify]; rw [if_neg (by omega)]⟩
theorem below_drewN {B : Nat} {a w : World} (h : Below B a w) (n : Nat) : Below B a (w.drewN n) := ⟨h.os, h.tape, h.output, h.size, h.block⟩
theorem bcell {W w1 : World} (hb : Below W.heap.size W w1) : (∀ b o, b < W.heap.size → w1.cell? ⟨b, o, none⟩ = W.cell? ⟨b, o, none⟩) ∧ (∀ b o, b < W.heap.size → w1.frozen? ⟨b, o, none⟩ = W.frozen? ⟨b, o, none⟩) :=
  ⟨fun b o h => hb.cell (p := ⟨b, o, none⟩) h, fun b o h => hb.frozen (p := ⟨b, o, none⟩) h⟩

theorem block_of_add (a : Addr) (n : Nat) : (a.add n).block = a.block := by unfold Addr.add; split <;> rfl
theorem add_of_add (a : Addr) (i j : Nat) : (a.add i).add j = a.add (i + j) := by
  unfold Addr.add
  by_cases hi : i = 0 <;> by_cases hj : j = 0 <;> simp [hi, hj, Nat.add_assoc]
/-- The slice value '.slice A n c' holds the cells xs and lies below block B. -/
def Reads (w : World) (B size : Nat) (A : Option Addr) (n : Nat) (xs : List Value) : Prop :=
  xs.length = n * size ∧ (0 < n → ∃ ad, A = some ad ∧ ad.block < B ∧ ∀ j u, xs[j]? = some u → w.cell? (ad.add j) = some u)
section
variable {w w' : World} {B B' size n : Nat} {A : Option Addr} {xs : List Value}
theorem Reads.none_ : Reads w B size A 0 [] := ⟨by simp, fun h => absurd h (by omega)⟩
theorem Reads.at_ {k : Nat} (h : Reads w B 1 A n xs) (hk : k < n) : ∃ ad u, A = some ad ∧ ad.block < B ∧ xs[k]? = some u ∧ w.cell? (ad.add k) = some u := by
  obtain ⟨ad, e, hb, hc⟩ := h.2 (by omega)
  have hl : k < xs.length := by have := h.1; omega
  exact ⟨ad, xs[k], e, hb, List.getElem?_eq_getElem hl, hc k _ (List.getElem?_eq_getElem hl)⟩
theorem Reads.keep (h : Reads w B size A n xs) (hk : ∀ p : Addr, p.block < B → w'.cell? p = w.cell? p) : Reads w' B size A n xs :=
  ⟨h.1, fun hn => by
    obtain ⟨ad, e, hb, hc⟩ := h.2 hn
    exact ⟨ad, e, hb, fun j u hu => (hk _ (by rw [block_of_add]; exact hb)).trans (hc j u hu)⟩⟩
theorem Reads.more (h : Reads w B size A n xs) (hB : B ≤ B') : Reads w B' size A n xs :=
  ⟨h.1, fun hn => by
    obtain ⟨ad, e, hb, hc⟩ := h.2 hn
    exact ⟨ad, e, by omega, hc⟩⟩
theorem Reads.below (h : Reads w B size A n xs) (hb : Below B w w') : Reads w' B size A n xs := h.keep fun _ hp => hb.cell hp
theorem Reads.drew (h : Reads w B size A n xs) : Reads w.drew B size A n xs := h
theorem Reads.drewN (h : Reads w B size A n xs) (k : Nat) : Reads (w.drewN k) B size A n xs := h
theorem Reads.alloc (h : Reads w B size A n xs) (hB : B ≤ w.heap.size) (o : Obj) : Reads (w.alloc o) B size A n xs := h.keep fun p hp => World.cell?_alloc_lt w o p (by omega)
theorem Reads.setCell (h : Reads w B size A n xs) {p : Addr} (hB : B ≤ p.block) (u : Value) : Reads (w.setCell p u) B size A n xs :=
  h.keep fun q hq => World.cell?_setCell_other w p q u (fun e => by subst e; omega)
theorem Reads.grown (h : Reads w B size A n xs) {row : Option Nat} (hg : w.grownBy w' row) (hB : B ≤ w.heap.size) (hr : ∀ g, row = some g → B ≤ g) : Reads w' B size A n xs :=
  h.keep fun p hp => World.cell?_of_block (hg.block p.block (by omega) (fun e => by have := hr _ e.symm; omega))
theorem Reads.cut (h : Reads w B size A n xs) {k cap : Nat} (hk : k ≤ n) (hc : n ≤ cap) :
    Reads w B size (if cap = k then A else A.map (·.add (k * size))) (n - k) (xs.drop (k * size)) := by
  refine ⟨by rw [List.length_drop, h.1, Nat.sub_mul], fun hn => ?_⟩
  obtain ⟨ad, rfl, hb, hcell⟩ := h.2 (by omega)
  rw [if_neg (by omega)]
  refine ⟨ad.add (k * size), rfl, by rw [block_of_add]; exact hb, fun j u hu => ?_⟩
  rw [add_of_add]
  exact hcell _ u (by rw [← hu, List.getElem?_drop])
theorem Reads.head (h : Reads w B size A n xs) {k : Nat} (hk : k ≤ n) : Reads w B size A k (xs.take (k * size)) := by
  refine ⟨by rw [List.length_take, h.1]; exact Nat.min_eq_left (Nat.mul_le_mul_right _ hk), fun hn => ?_⟩
  obtain ⟨ad, rfl, hb, hcell⟩ := h.2 (by omega)
  exact ⟨ad, rfl, hb, fun j u hu => hcell j u (by
    rw [List.getElem?_take] at hu
    split at hu
    · exact hu
    · cases hu)⟩
theorem Reads.of_own {base : Nat} {e : TypeId} {c : Nat} (h : w.ownsRow base e size (.slice A n c) n xs) : Reads w w.heap.size size A n xs := by
  refine ⟨h.1, fun hn => ?_⟩
  obtain ⟨g, cap, hv, _, hlt⟩ := h.form hn
  have hA : A = some ⟨g, 0, none⟩ := by injection hv
  subst hA
  exact ⟨_, rfl, hlt, h.cells (g := g) rfl⟩
end
end Go.Proofs.YthigbggacgiamaaDoor

namespace Go.Proofs.YthigbggacgiamaaDoor
open Go.RowKit
section
variable {P : Program} {w : World}
def isAggD : TypeDesc → Bool | .struct _ | .array _ _ => true | _ => false
/-- A type that takes n cells and whose values are aggregates. -/
structure AggT (P : Program) (ty : TypeId) (n : Nat) : Prop where
  und : ((P.underlying ty).map isAggD) = some true
  size : (P.info? ty).map (·.size) = some n
theorem run_isAgg {ty : TypeId} {n : Nat} (h : AggT P ty n) : (isAgg ty).run P w = .ok true w := by
  have hu := h.und
  cases hd : P.underlying ty with
  | none => simp [hd] at hu
  | some d =>
    unfold isAgg
    rw [Sem.run_bind, run_underlying hd w]
    rw [hd] at hu
    cases d <;> simp_all [isAggD]
theorem run_sizeOf {ty : TypeId} {n : Nat} (h : (P.info? ty).map (·.size) = some n) : (sizeOf ty).run P w = .ok n w := by
  cases hq : P.info? ty with
  | none => simp [hq] at h
  | some i =>
    have hs : i.size = n := by simpa [hq] using h
    simp [sizeOf, typeInfo, hq, hs]
theorem run_loadVar_cells {ty : TypeId} {n : Nat} (h : AggT P ty n) (ad : Addr) (xs : List Value) (hl : xs.length = n) (hc : ∀ j v, xs[j]? = some v → w.cell? (ad.add j) = some v) :
    (loadVar ty ad).run P w = .ok (.agg xs.toArray) w := by
  have hr := run_loadCells_list (P := P) w ad xs hc
  rw [hl] at hr
  simp [loadVar, Sem.run_bind, run_isAgg h, run_sizeOf h.size, hr]
theorem run_execOp_load {o : Oper} {ρ : Operand → Value} {ty : TypeId} {x : Operand} (ho : o.op = .load ty x) {ad : Addr} (hx : ρ x = .pointer (some ad)) {v : Value} (hr : (loadVar ty ad).run P w = .ok v w) :
    (execOp ρ o).run P w = .ok (.value v) w := by
  unfold execOp
  simp only [ho, hx, Instr.loadAt, Instr.sureAddr, Sem.run_bind, Sem.run_pure, Result.andThen_ok, hr]
/-- The cells that a load of n cells at ad finds. -/
structure Cells (w : World) (ad : Addr) (xs : List Value) : Prop where
  is : ∀ j v, xs[j]? = some v → w.cell? (ad.add j) = some v
theorem Cells.keep {w w' : World} {ad : Addr} {xs : List Value} (h : Cells w ad xs) (hk : ∀ p : Addr, p.block = ad.block → w'.cell? p = w.cell? p) : Cells w' ad xs :=
  ⟨fun j v hv => (hk _ (block_of_add ad j)).trans (h.is j v hv)⟩
theorem Cells.drew {w : World} {ad : Addr} {xs : List Value} (h : Cells w ad xs) : Cells w.drew ad xs := ⟨h.is⟩
theorem Cells.drewN {w : World} {ad : Addr} {xs : List Value} (h : Cells w ad xs) (k : Nat) : Cells (w.drewN k) ad xs := ⟨h.is⟩
theorem Cells.below {w w' : World} {B : Nat} {ad : Addr} {xs : List Value} (h : Cells w ad xs) (hb : Below B w w') (hB : ad.block < B) : Cells w' ad xs :=
  h.keep fun p hp => hb.cell (by omega)
theorem Blk.cells_at {g : Nat} {t : TypeId} {cs : Array Value} (h : Blk w g t cs) (off : Nat) (xs : List Value) (hx : ∀ j v, xs[j]? = some v → cs[off + j]? = some v) : Cells w ⟨g, off, none⟩ xs := by
  refine ⟨fun j v hv => ?_⟩
  have hadd : (⟨g, off, none⟩ : Addr).add j = ⟨g, off + j, none⟩ := by unfold Addr.add; split <;> simp_all
  rw [hadd, h.cell]; exact hx j v hv
theorem Blk.cells {g : Nat} {t : TypeId} {cs : Array Value} (h : Blk w g t cs) : Cells w ⟨g, 0, none⟩ cs.toList := h.cells_at 0 _ (by simp)
theorem Blk.cells_arr {g : Nat} {t : TypeId} {l : List UInt8} (h : Blk w g t (arr l)) : Cells w ⟨g, 0, none⟩ (l.map U8) := h.cells_at 0 _ (by intro j v hv; simpa [arr] using hv)
section
variable {o : Oper} {a : Act} {K : Act → World → Prop} {Q : Exit → Act → World → Prop} {ops : Array Oper} {rest : List Oper}
theorem wpl_load (hgd : o.guard = none) (ty : TypeId) (x : Operand) (ho : o.op = .load ty x) (ad : Addr) (hx : a.eval x = .pointer (some ad)) (n : Nat) (ht : AggT P ty n) (xs : List Value) (hl : xs.length = n)
    (hc : Cells w ad xs) (h : wpList P ops Q rest (a.put o.dst (.agg xs.toArray)) w) : wpList P ops Q (o :: rest) a w :=
  wpList_plain hgd fun K hK => by
    unfold Oper.wp
    rw [run_execOp_load ho hx (run_loadVar_cells ht ad xs hl hc.is)]
    exact hK _ _ h
theorem still_load (hgd : o.guard = none) (ty : TypeId) (x : Operand) (ho : o.op = .load ty x) (ad : Addr) (hx : a.eval x = .pointer (some ad)) (n : Nat) (ht : AggT P ty n) (xs : List Value) (hl : xs.length = n)
    (hc : Cells w ad xs) {Q : Act → Prop} (h : wpStill P ops w Q rest (a.put o.dst (.agg xs.toArray))) : wpStill P ops w Q (o :: rest) a :=
  wpStill_step fun K hK => by
    rw [if_pos (by simp [Region.wanted, hgd])]
    unfold Oper.still
    rw [run_execOp_load ho hx (run_loadVar_cells ht ad xs hl hc.is), Oper.stillUpon_value]
    exact hK _ h
theorem wpl_alloc (hgd : o.guard = none) (ty : TypeId) (ho : o.op = .alloc ty) (cs : Array Value) (hz : (P.info? ty).bind (·.zero) = some (.agg cs))
    (h : wpList P ops Q rest (a.put o.dst (.pointer (some ⟨w.heap.size, 0, none⟩))) (w.alloc (.cells cs ty))) : wpList P ops Q (o :: rest) a w :=
  wpList_plain hgd fun K hK => by
    have hrun : (execOp a.eval o).run P w = .ok (.value (.pointer (some ⟨w.heap.size, 0, none⟩))) (w.alloc (.cells cs ty)) := by
      cases hq : P.info? ty with
      | none => simp [hq] at hz
      | some i =>
        have hz' : i.zero = some (.agg cs) := by simpa [hq] using hz
        unfold execOp
        simp only [ho]
        simp [Instr.alloc, zeroValue, typeInfo, hq, hz', newVar, newRow, Value.cells]
    unfold Oper.wp
    rw [hrun]
    exact hK _ _ h
/-- A store of an aggregate into the middle of a block. -/
def splice (cs : Array Value) (off : Nat) (xs : List Value) : Array Value := (cs.toList.take off ++ xs ++ cs.toList.drop (off + xs.length)).toArray
theorem run_storeVar_at {g : Nat} {t ty : TypeId} {cs : Array Value} (hb : Blk w g t cs) (off : Nat) (xs : List Value) (hi : (P.info? ty).map (·.size) = some xs.length) (hle : off + xs.length ≤ cs.size)
    (h1 : ∀ v ∈ xs, v.oneCell' = true) : (storeVar ty ⟨g, off, none⟩ (.agg xs.toArray)).run P w = .ok () (w.setRow g (splice cs off xs)) := by
  have hr := run_storeCells_at P g off t xs 0 cs w hb.is (by omega) h1
  simp only [Nat.add_zero] at hr
  simp [storeVar, run_sizeOf hi, Value.cells, hr, splice]
theorem wpl_store (hgd : o.guard = none) (ty : TypeId) (x y : Operand) (ho : o.op = .store ty x y) (g off : Nat) (xs : List Value) (hx : a.eval x = .pointer (some ⟨g, off, none⟩)) (hy : a.eval y = .agg xs.toArray)
    (t : TypeId) (cs : Array Value) (hb : Blk w g t cs) (hi : (P.info? ty).map (·.size) = some xs.length) (hle : off + xs.length ≤ cs.size) (h1 : ∀ v ∈ xs, v.oneCell' = true)
    (h : wpList P ops Q rest (a.put o.dst undef) (w.setRow g (splice cs off xs))) : wpList P ops Q (o :: rest) a w :=
  wpList_plain hgd fun K hK => by
    unfold Oper.wp execOp
    simp only [ho, hx, hy, Instr.storeAt, Instr.sureAddr, Sem.run_bind, Sem.run_pure, Result.andThen_ok, run_storeVar_at hb off xs hi hle h1]
    exact hK _ _ h
theorem splice_all (cs : Array Value) (xs : List Value) (h : xs.length = cs.size) : splice cs 0 xs = xs.toArray := by
  simp [splice, h]
/-- A store of a whole array of bytes into a block that is one. -/
theorem wpl_store_arr (hgd : o.guard = none) (ty : TypeId) (x y : Operand) (ho : o.op = .store ty x y) (g : Nat) (l : List UInt8) (hx : a.eval x = .pointer (some ⟨g, 0, none⟩)) (hy : a.eval y = .agg (arr l))
    (t : TypeId) (cs : Array Value) (hb : Blk w g t cs) (n : Nat) (hi : (P.info? ty).map (·.size) = some n) (hl : l.length = n) (hn : cs.size = n)
    (h : wpList P ops Q rest (a.put o.dst undef) (w.setRow g (arr l))) : wpList P ops Q (o :: rest) a w := by
  refine wpl_store hgd ty x y ho g 0 (l.map U8) hx hy t cs hb (by rw [hi, List.length_map, hl]) (by rw [List.length_map]; omega) (by simp [Value.oneCell']) ?_
  rw [splice_all cs _ (by rw [List.length_map]; omega)]
  exact h
theorem wpl_load_arr (hgd : o.guard = none) (ty : TypeId) (x : Operand) (ho : o.op = .load ty x) (ad : Addr) (hx : a.eval x = .pointer (some ad)) (n : Nat) (ht : AggT P ty n) (l : List UInt8) (hl : l.length = n)
    (hc : Cells w ad (l.map U8)) (h : wpList P ops Q rest (a.put o.dst (.agg (arr l))) w) : wpList P ops Q (o :: rest) a w :=
  wpl_load hgd ty x ho ad hx n ht _ (by rw [List.length_map, hl]) hc h
theorem still_load_arr (hgd : o.guard = none) (ty : TypeId) (x : Operand) (ho : o.op = .load ty x) (ad : Addr) (hx : a.eval x = .pointer (some ad)) (n : Nat) (ht : AggT P ty n) (l : List UInt8) (hl : l.length = n)
    (hc : Cells w ad (l.map U8)) {Q : Act → Prop} (h : wpStill P ops w Q rest (a.put o.dst (.agg (arr l)))) : wpStill P ops w Q (o :: rest) a :=
  still_load hgd ty x ho ad hx n ht _ (by rw [List.length_map, hl]) hc h
end
/-- The world under one name, with what is known of it. -/
theorem wp_name {c : Code} {Q : Exit → Act → World → Prop} {a : Act} (R : World → Prop) (h : R w) (k : ∀ w, R w → c.wp P Q a w) : c.wp P Q a w := k w h
theorem wpl_name {ops : Array Oper} {rest : List Oper} {Q : Exit → Act → World → Prop} {a : Act} (R : World → Prop) (h : R w) (k : ∀ w, R w → wpList P ops Q rest a w) : wpList P ops Q rest a w := k w h
/-- The result lies in a block that is an array of bytes. -/
theorem ret_arr {fn : Func} {p : Tmp} {ty : TypeId} {R : Ending → World → Prop} {a : Act} (h : fn.results = #[.cell p ty]) (g : Nat) (hp : a.tmps.getD p undef = .pointer (some ⟨g, 0, none⟩)) {n : Nat} (ht : AggT P ty n) (l : List UInt8) (hl : l.length = n)
    (hc : Cells w ⟨g, 0, none⟩ (l.map U8)) (hd : a.defers = []) (hR : R (.returned (.agg (arr l))) w) : bodyPost P fn R .ret a w := by
  refine bodyPost_ret (v := .agg (arr l)) ?_ hd hR
  have hp' : a.tmps[p]?.getD undef = .pointer (some ⟨g, 0, none⟩) := by simpa using hp
  have := run_loadVar_cells (P := P) (w := w) ht ⟨g, 0, none⟩ (l.map U8) (by rw [List.length_map, hl]) hc.is
  simp [results, h, hp', asAddr, this, arr]
end
theorem take_set_succ (xs : List Value) (m : Nat) (x : Value) (h : m < xs.length) : (xs.set m x).take (m + 1) = xs.take m ++ [x] := by
  apply List.ext_getElem?
  intro i
  simp only [List.getElem?_take, List.getElem?_set, List.getElem?_append, List.length_take]
  by_cases h1 : i < m
  · rw [if_pos (by omega), if_neg (by omega), if_pos (by omega), if_pos h1]
  · by_cases h2 : i = m
    · subst h2; rw [if_pos (by omega), if_pos rfl, if_pos h, if_neg (by omega)]; simp [show i - min i xs.length = 0 by omega]
    · rw [if_neg (by omega), if_neg (by omega), List.getElem?_eq_none (by simp; omega)]
theorem drop_set_past (xs : List Value) (m k : Nat) (x : Value) (h : m < k) : (xs.set m x).drop k = xs.drop k := by
  rw [List.drop_set]; rw [if_pos h]
theorem foldl_set (off : Nat) : ∀ (l : List Value) (k : Nat) (cells : Array Value), off + k + l.length ≤ cells.size →
    (l.zipIdx k).foldl (fun cs p => cs.setIfInBounds (off + p.2) p.1) cells = (cells.toList.take (off + k) ++ l ++ cells.toList.drop (off + k + l.length)).toArray
  | [], k, cells, _ => by simp
  | x :: l, k, cells, h => by
    rw [List.zipIdx_cons, List.foldl_cons, foldl_set off l (k + 1) _ (by simp at h ⊢; omega)]
    simp only [List.length_cons] at h
    simp only [Array.toList_setIfInBounds]
    rw [show off + (k + 1) = off + k + 1 from rfl, take_set_succ _ _ _ (by simp; omega), drop_set_past _ _ _ _ (by omega)]
    simp only [List.length_cons, List.append_assoc, List.cons_append, List.nil_append]
    rw [show off + k + 1 + l.length = off + k + (l.length + 1) by omega]
theorem fill_cons (place : Nat → Option (Nat × Nat)) (cells : Array Value) (i off size : Nat) (v : Value) (rest : List (Nat × Value)) (hp : place i = some (off, size)) (hs : v.cells.size = size) (hle : off + size ≤ cells.size) :
    Instr.fill place cells ((i, v) :: rest) = Instr.fill place (splice cells off v.cells.toList) rest := by
  rw [Instr.fill, hp]
  simp only []
  rw [if_neg (by simp; omega)]
  congr 1
  have := foldl_set off v.cells.toList 0 cells (by simp; omega)
  simp only [Nat.add_zero] at this
  rw [splice, ← this, ← Array.foldl_toList, Array.toList_zipIdx]
theorem wpl_build {P : Program} {w : World} {o : Oper} {a : Act} {Q : Exit → Act → World → Prop} {ops : Array Oper} {rest : List Oper} (hgd : o.guard = none) (t : TypeId) (parts : List (Nat × Operand)) (ho : o.op = .build t parts.toArray) (ps : List (Nat × Value))
    (hp : parts.map (fun p => (p.1, a.eval p.2)) = ps) (cells : Array Value) (hb : P.built t ps = some cells) (h : wpList P ops Q rest (a.put o.dst (.agg cells)) w) : wpList P ops Q (o :: rest) a w := by
  have e : (parts.toArray.map fun (i, x) => (i, a.eval x)).toList = ps := by rw [← hp]; simp
  exact wpList_build hgd t parts.toArray ho (by rw [e, hb]; rfl) (by rw [e, hb]; exact h)
theorem run_arrayAt {P : Program} {w : World} {arr : TypeId} {n : Nat} {e : TypeId} (hu : P.underlying arr = some (.array n e)) (a : Option Addr) (len cap : Nat) (h : n ≤ len) : (Instr.arrayAt arr (.slice a len cap)).run P w = .ok (.pointer a) w := by
  simp [Instr.arrayAt, run_underlying hu, Nat.not_lt.2 h]
theorem wpl_toArray {P : Program} {w : World} {o : Oper} {a : Act} {Q : Exit → Act → World → Prop} {ops : Array Oper} {rest : List Oper} (hgd : o.guard = none) (arr : TypeId) (x : Operand) (ho : o.op = .sliceToArrayPointer arr x) (b : Option Addr) (len cap : Nat) (hx : a.eval x = .slice b len cap)
    {n : Nat} {e : TypeId} (hu : P.underlying arr = some (.array n e)) (hle : n ≤ len) (h : wpList P ops Q rest (a.put o.dst (.pointer b)) w) : wpList P ops Q (o :: rest) a w :=
  wpList_plain hgd fun K hK => by
    have hr : (execOp a.eval o).run P w = .ok (.value (.pointer b)) w := by
      unfold execOp
      simp only [ho, hx]
      simp [run_arrayAt hu b len cap hle]
    unfold Oper.wp
    rw [hr]
    exact hK _ _ h
theorem still_build {P : Program} {w : World} {o : Oper} {a : Act} {ops : Array Oper} {rest : List Oper} (hgd : o.guard = none) (t : TypeId) (parts : List (Nat × Operand)) (ho : o.op = .build t parts.toArray) (ps : List (Nat × Value))
    (hp : parts.map (fun p => (p.1, a.eval p.2)) = ps) (cells : Array Value) (hb : P.built t ps = some cells) {Q : Act → Prop} (h : wpStill P ops w Q rest (a.put o.dst (.agg cells))) : wpStill P ops w Q (o :: rest) a :=
  wpStill_step fun K hK => by
    rw [if_pos (by simp [Region.wanted, hgd])]
    have e : (parts.toArray.map fun (i, x) => (i, a.eval x)).toList = ps := by rw [← hp]; simp
    have hr : (execOp a.eval o).run P w = .ok (.value (.agg cells)) w := by
      unfold execOp
      simp only [ho, Sem.run_bind, run_build w t _ cells (e ▸ hb), Result.andThen_ok, Sem.run_pure]
    unfold Oper.still
    rw [hr, Oper.stillUpon_value]
    exact hK _ h
theorem foldl_full (l : List Value) (cells : Array Value) (h : l.length = cells.size) : List.foldl (fun cs (x : Value × Nat) => cs.setIfInBounds x.2 x.1) cells l.zipIdx = l.toArray := by
  have := foldl_set 0 l 0 cells (by omega)
  simp only [Nat.zero_add] at this
  rw [this, h]; simp
end Go.Proofs.YthigbggacgiamaaDoor

namespace Go.Proofs.YthigbggacgiamaaDoor
open Go.RowKit
theorem ty16 : AggT Tryd.prog 87 16 := ⟨by kernel_rfl, by kernel_rfl⟩
theorem ty4 : AggT Tryd.prog 22 4 := ⟨by kernel_rfl, by kernel_rfl⟩
theorem ty12 : AggT Tryd.prog 27 12 := ⟨by kernel_rfl, by kernel_rfl⟩
theorem ty256 : AggT Tryd.prog 131 256 := ⟨by kernel_rfl, by kernel_rfl⟩
theorem zero256 : (Tryd.prog.info? 131).bind (·.zero) = some (.agg (arr (List.replicate 256 0))) := by kernel_rfl
theorem zero16 : (Tryd.prog.info? 87).bind (·.zero) = some (.agg (arr (List.replicate 16 0))) := by kernel_rfl
theorem zero4 : (Tryd.prog.info? 22).bind (·.zero) = some (.agg (arr (List.replicate 4 0))) := by kernel_rfl
theorem built4 (a b c d : Value) (ha : a.cells = #[a]) (hb : b.cells = #[b]) (hc : c.cells = #[c]) (hd : d.cells = #[d]) : Tryd.prog.built 22 [(0, a), (1, b), (2, c), (3, d)] = some #[a, b, c, d] := by
  have e : ∀ parts, Tryd.prog.built 22 parts = Instr.fill (fun i => some (i * 1, 1)) #[.int .u8 0, .int .u8 0, .int .u8 0, .int .u8 0] parts := fun parts => by kernel_rfl
  rw [e]; simp [Instr.fill, ha, hb, hc, hd, Array.zipIdx]
theorem built_key (parts : List (Nat × Value)) : Tryd.prog.built 135 parts = Instr.fill (fun i => (#[(0, 1), (1, 256)] : Array (Nat × Nat))[i]?) (#[Value.slice none 0 0] ++ arr (List.replicate 256 0)) parts := by kernel_rfl
end Go.Proofs.YthigbggacgiamaaDoor

namespace Go.Proofs.YthigbggacgiamaaDoor
open Go.RowKit
section
variable {P : Program} (w : World)

theorem run_append_of_nil (base : Nat) (t ty e : TypeId) (i : TypeInfo) (size : Nat) (ht : P.underlying t = some (.slice e)) (hi : P.info? e = some i)
    (v : Value) (n : Nat) (xs : List Value) (hown : w.ownsRow base e size v n xs) (c : Nat) : (Builtin.append_ #[t, t] ty #[v, .slice none 0 c]).run P w = .ok v w := by
  rcases hown.2 with ⟨rfl, rfl⟩ | ⟨g, cap, cur, rfl, _, _, hnc, _⟩
  · simp [Builtin.append_, run_underlying ht, sizeOf, typeInfo, hi, Builtin.lenOf, Builtin.firstCells]
  · simp [Builtin.append_, run_underlying ht, sizeOf, typeInfo, hi, Builtin.lenOf, Builtin.firstCells, hnc, storeCells]

theorem run_append_any (base : Nat) (t ty e : TypeId) (i : TypeInfo) (z : Value) (size bytes : Nat) (ht : P.underlying t = some (.slice e)) (hi : P.info? e = some i) (hz : i.zero = some z)
    (hsize : i.size = size) (hby : i.bytes = bytes) (hzs : z.cells.size = size) (hsz : 0 < size)
    (v : Value) (n : Nat) (xs : List Value) (hown : w.ownsRow base e size v n xs)
    (B : Nat) (A : Option Addr) (m c : Nat) (news : List Value) (hr : Reads w B size A m news) (h1 : ∀ u ∈ news, u.oneCell' = true)
    (h63 : n + m ≤ maxLen) (hbytes : (n + m) * bytes ≤ 140737488355328) (hbase : base ≤ w.heap.size) :
    ∃ v' w', (Builtin.append_ #[t, t] ty #[v, .slice A m c]).run P w = .ok v' w' ∧ w'.ownsRow base e size v' (n + m) (xs ++ news) ∧ w.grownBy w' v.ownBlock ∧
      (v'.ownBlock = v.ownBlock ∨ v'.ownBlock = some w.heap.size) := by
  rcases A with _ | ad
  · have hm : m = 0 := by
      rcases Nat.eq_zero_or_pos m with h0 | h0
      · exact h0
      · obtain ⟨ad, h, _⟩ := hr.2 h0
        cases h
    subst hm
    have hn : news = [] := List.eq_nil_of_length_eq_zero (by simpa using hr.1)
    subst hn
    exact ⟨v, w, run_append_of_nil w base t ty e i size ht hi v n xs hown c, by simpa using hown, World.grownBy.refl w _, .inl rfl⟩
  · have hcells : ∀ j u, news[j]? = some u → w.cell? (ad.add j) = some u := by
      intro j u hu
      rcases Nat.eq_zero_or_pos m with h0 | h0
      · subst h0
        have hn : news = [] := List.eq_nil_of_length_eq_zero (by simpa using hr.1)
        subst hn
        simp at hu
      · obtain ⟨ad', h, _, hc⟩ := hr.2 h0
        injection h with h
        subst h
        exact hc j u hu
    obtain ⟨v', w', hrun, h2, h3, _, h5⟩ := run_append_own_at (P := P) w base t ty e i z size bytes ht hi hz hsize hby hzs hsz v n xs hown ad m c news hr.1 hcells h1 h63 hbytes hbase
    exact ⟨v', w', hrun, h2, h3, h5⟩

theorem wp_append_any {o : Oper} {a : Act} {K : Act → World → Prop} {Q : Exit → Act → World → Prop} (s x : Operand) (t : TypeId)
    (ho : o.op = .call { callee := .builtin .append, args := #[s, x], argTypes := #[t, t] })
    (base : Nat) (e : TypeId) (i : TypeInfo) (z : Value) (size bytes : Nat) (ht : P.underlying t = some (.slice e)) (hi : P.info? e = some i) (hz : i.zero = some z)
    (hsize : i.size = size) (hby : i.bytes = bytes) (hzs : z.cells.size = size) (hsz : 0 < size)
    (v : Value) (n : Nat) (xs : List Value) (hs : a.eval s = v) (hown : w.ownsRow base e size v n xs)
    (B : Nat) (A : Option Addr) (m c : Nat) (news : List Value) (hx : a.eval x = .slice A m c) (hr : Reads w B size A m news) (h1 : ∀ u ∈ news, u.oneCell' = true)
    (h63 : n + m ≤ maxLen) (hbytes : (n + m) * bytes ≤ 140737488355328) (hbase : base ≤ w.heap.size)
    (h : ∀ v' w', w'.ownsRow base e size v' (n + m) (xs ++ news) → w.grownBy w' v.ownBlock → (v'.ownBlock = v.ownBlock ∨ v'.ownBlock = some w.heap.size) → K (a.put o.dst v') w') : o.wp P a w K Q := by
  obtain ⟨v', w', hrun, h2, h3, h4⟩ := run_append_any (P := P) w base t o.type e i z size bytes ht hi hz hsize hby hzs hsz v n xs hown B A m c news hr h1 h63 hbytes hbase
  unfold Oper.wp execOp
  simp only [ho, resolve, invoke, builtin, Sem.run_bind, Sem.run_pure, Result.andThen_ok, List.map_toArray, List.map_cons, List.map_nil, hs, hx, hrun]
  exact h v' w' h2 h3 h4

theorem wpList_append_any {ops : Array Oper} {rest : List Oper} {o : Oper} {a : Act} {Q : Exit → Act → World → Prop} (hgd : o.guard = none) (s x : Operand) (t : TypeId)
    (ho : o.op = .call { callee := .builtin .append, args := #[s, x], argTypes := #[t, t] })
    (base : Nat) (e : TypeId) (i : TypeInfo) (z : Value) (size bytes : Nat) (ht : P.underlying t = some (.slice e)) (hi : P.info? e = some i) (hz : i.zero = some z)
    (hsize : i.size = size) (hby : i.bytes = bytes) (hzs : z.cells.size = size) (hsz : 0 < size)
    (v : Value) (n : Nat) (xs : List Value) (hs : a.eval s = v) (hown : w.ownsRow base e size v n xs)
    (B : Nat) (A : Option Addr) (m c : Nat) (news : List Value) (hx : a.eval x = .slice A m c) (hr : Reads w B size A m news) (h1 : ∀ u ∈ news, u.oneCell' = true)
    (h63 : n + m ≤ maxLen) (hbytes : (n + m) * bytes ≤ 140737488355328) (hbase : base ≤ w.heap.size)
    (h : ∀ v' w', w'.ownsRow base e size v' (n + m) (xs ++ news) → w.grownBy w' v.ownBlock → (v'.ownBlock = v.ownBlock ∨ v'.ownBlock = some w.heap.size) → wpList P ops Q rest (a.put o.dst v') w') : wpList P ops Q (o :: rest) a w :=
  wpList_plain hgd fun _ hK => wp_append_any w s x t ho base e i z size bytes ht hi hz hsize hby hzs hsz v n xs hs hown B A m c news hx hr h1 h63 hbytes hbase fun v' w' h2 h3 h4 => hK _ _ (h v' w' h2 h3 h4)

theorem step_append_any {ops : Array Oper} {o : Oper} {a : Act} {K : Act → World → Prop} {Q : Exit → Act → World → Prop} {E : Prop} (hgd : o.guard = none) (s x : Operand) (t : TypeId)
    (ho : o.op = .call { callee := .builtin .append, args := #[s, x], argTypes := #[t, t] })
    (base : Nat) (e : TypeId) (i : TypeInfo) (z : Value) (size bytes : Nat) (ht : P.underlying t = some (.slice e)) (hi : P.info? e = some i) (hz : i.zero = some z)
    (hsize : i.size = size) (hby : i.bytes = bytes) (hzs : z.cells.size = size) (hsz : 0 < size)
    (v : Value) (n : Nat) (xs : List Value) (hs : a.eval s = v) (hown : w.ownsRow base e size v n xs)
    (B : Nat) (A : Option Addr) (m c : Nat) (news : List Value) (hx : a.eval x = .slice A m c) (hr : Reads w B size A m news) (h1 : ∀ u ∈ news, u.oneCell' = true)
    (h63 : n + m ≤ maxLen) (hbytes : (n + m) * bytes ≤ 140737488355328) (hbase : base ≤ w.heap.size)
    (h : ∀ v' w', w'.ownsRow base e size v' (n + m) (xs ++ news) → w.grownBy w' v.ownBlock → (v'.ownBlock = v.ownBlock ∨ v'.ownBlock = some w.heap.size) → K (a.put o.dst v') w') :
    if Region.wanted o (yielded ops a.tmps) = true then Oper.wp P o a w K Q else E := by
  have hw : Region.wanted o (yielded ops a.tmps) = true := by simp [Region.wanted, hgd]
  rw [if_pos hw]
  exact wp_append_any w s x t ho base e i z size bytes ht hi hz hsize hby hzs hsz v n xs hs hown B A m c news hx hr h1 h63 hbytes hbase h
end

theorem u8_info : (Tryd.prog.info? 5).map (fun i => (i.zero, i.size, i.bytes)) = some (some (.int .u8 0), 1, 1) := by kernel_rfl
/-- The slice value v, made by the call itself (blocks from B on), holds the bytes l. -/
structure OwnB (w : World) (B : Nat) (v : Value) (l : List UInt8) : Prop where
  own : w.ownsRow B 5 1 v l.length (l.map U8)
/-- A slice value that came in, or that nobody writes: it holds the bytes l. -/
structure ReadsB (w : World) (B : Nat) (A : Option Addr) (n : Nat) (l : List UInt8) : Prop where
  len : l.length = n
  is : Reads w B 1 A n (l.map U8)
section
variable {w w' : World} {B : Nat} {v : Value} {l : List UInt8}
theorem OwnB.nil (w : World) (B : Nat) : OwnB w B (.slice none 0 0) [] := ⟨⟨by simp, .inl ⟨rfl, rfl⟩⟩⟩
theorem OwnB.drew (h : OwnB w B v l) : OwnB w.drew B v l := ⟨h.own.drew⟩
theorem OwnB.drewN (h : OwnB w B v l) (n : Nat) : OwnB (w.drewN n) B v l := ⟨h.own⟩
theorem OwnB.alloc (h : OwnB w B v l) (o : Obj) : OwnB (w.alloc o) B v l := ⟨h.own.alloc o⟩
theorem OwnB.form (h : OwnB w B v l) (hn : 0 < l.length) : ∃ g cap, v = .slice (some ⟨g, 0, none⟩) l.length cap ∧ B ≤ g ∧ g < w.heap.size ∧ l.length ≤ cap := by
  obtain ⟨_, h2⟩ := h.own
  rcases h2 with ⟨rfl, h0⟩ | ⟨g, cap, cur, rfl, hg, hh, hnc, _⟩
  · have : (l.map U8).length = 0 := by simpa using h0
    simp at this; omega
  · refine ⟨g, cap, rfl, hg, ?_, hnc⟩
    rcases Nat.lt_or_ge g w.heap.size with hlt | hge
    · exact hlt
    · rw [Array.getElem?_eq_none hge] at hh; cases hh
theorem OwnB.cell {g cap : Nat} (h : OwnB w B (.slice (some ⟨g, 0, none⟩) l.length cap) l) (i : Nat) (hi : i < l.length) : w.cell? ⟨g, i, none⟩ = some (.int .u8 (n8 (nth l i))) := by
  rw [h.own.cellAt i (by omega), List.getElem?_map, List.getElem?_eq_getElem hi]
  simp [nth, hi]
theorem OwnB.frozen {g cap : Nat} (h : OwnB w B (.slice (some ⟨g, 0, none⟩) l.length cap) l) (i : Nat) : w.frozen? ⟨g, i, none⟩ = false := h.own.frozenAt i
theorem OwnB.set_ {g cap : Nat} (h : OwnB w B (.slice (some ⟨g, 0, none⟩) l.length cap) l) (i : Nat) (x : UInt8) : OwnB (w.setCell ⟨g, i, none⟩ (.int .u8 (n8 x))) B (.slice (some ⟨g, 0, none⟩) l.length cap) (l.set i x) := by
  have := h.own.stored i (.int .u8 (n8 x))
  exact ⟨by rw [List.length_set, List.map_set]; exact this.1⟩
theorem OwnB.far {p : Addr} (h : OwnB w B v l) (hp : v.ownBlock ≠ some p.block) (u : Value) : OwnB (w.setCell p u) B v l := ⟨ownsRow_setCell_other h.own hp u⟩
theorem OwnB.cells {g cap : Nat} (h : OwnB w B (.slice (some ⟨g, 0, none⟩) l.length cap) l) (off n : Nat) (hn : off + n ≤ l.length) : Cells w ⟨g, off, none⟩ (((l.drop off).take n).map U8) := by
  refine ⟨fun j u hu => ?_⟩
  have hadd : (⟨g, off, none⟩ : Addr).add j = ⟨g, off + j, none⟩ := by unfold Addr.add; split <;> simp_all
  have hj : j < n := by
    rcases Nat.lt_or_ge j n with hlt | hge
    · exact hlt
    · rw [List.getElem?_eq_none (by simp; omega)] at hu; cases hu
  rw [hadd, h.cell (off + j) (by omega)]
  rw [List.getElem?_map, List.getElem?_take, if_pos hj, List.getElem?_drop, List.getElem?_eq_getElem (by omega)] at hu
  simp at hu
  rw [← hu]; simp [nth, show off + j < l.length by omega]
theorem OwnB.reads {g cap : Nat} (h : OwnB w B (.slice (some ⟨g, 0, none⟩) l.length cap) l) : ReadsB w w.heap.size (some ⟨g, 0, none⟩) l.length l := ⟨rfl, Reads.of_own h.own⟩
theorem OwnB.size (h : OwnB w B v l) : v.ownBlock = none ∨ ∃ g, v.ownBlock = some g ∧ B ≤ g ∧ g < w.heap.size := by
  cases hv : v.ownBlock with
  | none => exact .inl rfl
  | some g => exact .inr ⟨g, rfl, h.own.lt g hv⟩
theorem Blk.appended {g : Nat} {t : TypeId} {cs : Array Value} (h : Blk w g t cs) (ho : OwnB w B v l) (hg : w.grownBy w' v.ownBlock) (hne : 5 ≠ t) : Blk w' g t cs := by
  refine h.grown hg ?_
  intro he
  obtain ⟨_, h2⟩ := ho.own
  rcases h2 with ⟨rfl, _⟩ | ⟨g', cap, cur, rfl, _, hh, _⟩
  · simp [Value.ownBlock] at he
  · have : g' = g := by simpa [Value.ownBlock] using he.symm
    subst this
    have hb := h.is
    rw [hh] at hb
    injection hb with hb
    injection hb with _ ht
    exact hne ht
theorem below_appended {a : World} {B' : Nat} (h : Below B' a w) (ho : OwnB w B v l) (hg : w.grownBy w' v.ownBlock) (hB : B' ≤ B) (hs : B' ≤ w.heap.size) : Below B' a w' :=
  h.grown hg hs fun k hk => Nat.le_trans hB (ho.own.lt k hk).1
end
section
variable {w : World} {ops : Array Oper} {rest : List Oper} {o : Oper} {a : Act} {Q : Exit → Act → World → Prop}
theorem wpl_appendB (hgd : o.guard = none) (s x : Operand) (ho : o.op = .call { callee := .builtin .append, args := #[s, x], argTypes := #[30, 30] })
    (B : Nat) (v : Value) (l : List UInt8) (hs : a.eval s = v) (hown : OwnB w B v l) (B' : Nat) (A : Option Addr) (m c : Nat) (ys : List UInt8) (hx : a.eval x = .slice A m c) (hr : ReadsB w B' A m ys)
    (hlen : l.length + ys.length ≤ 140737488355328) (hB : B ≤ w.heap.size)
    (h : ∀ v' w', OwnB w' B v' (l ++ ys) → w.grownBy w' v.ownBlock → (v'.ownBlock = v.ownBlock ∨ v'.ownBlock = some w.heap.size) → wpList Tryd.prog ops Q rest (a.put o.dst v') w') : wpList Tryd.prog ops Q (o :: rest) a w := by
  obtain ⟨i0, hi0, hz0, hz1, hz2⟩ := info_parts u8_info
  have hm := hr.len
  refine wpList_append_any w hgd s x _ ho B 5 i0 _ 1 1 Tryd.underlying30 hi0 hz0 hz1 hz2 rfl (by omega) v l.length (l.map U8) hs hown.own B' A m c (ys.map U8) hx hr.is (by simp [Value.oneCell']) (by unfold maxLen; omega) (by omega) hB ?_
  intro v' w' h1 h2 h3
  refine h v' w' ⟨?_⟩ h2 h3
  rw [List.length_append, hm, List.map_append]; exact h1
end
section
variable {w w' : World} {z : Nat}
theorem grew_alloc (h : w.grownBy w' (some z)) (o : Obj) : w.grownBy (w'.alloc o) (some z) :=
  ⟨h.os, h.tape, h.output, Nat.le_trans h.size (by simp), fun i hi hne => (Below.heap_alloc w' o i (Nat.lt_of_lt_of_le hi h.size)).trans (h.block i hi hne)⟩
theorem grew_drewN (h : w.grownBy w' (some z)) (n : Nat) : w.grownBy (w'.drewN n) (some z) := ⟨h.os, h.tape, h.output, h.size, h.block⟩
theorem grew_drew (h : w.grownBy w' (some z)) : w.grownBy w'.drew (some z) := ⟨h.os, h.tape, h.output, h.size, h.block⟩
theorem grew_setRow (h : w.grownBy w' (some z)) (cs : Array Value) : w.grownBy (w'.setRow z cs) (some z) :=
  ⟨h.os, h.tape, h.output, by simpa using h.size, fun i hi hne => by
    have : (w'.setRow z cs).heap[i]? = w'.heap[i]? := by
      simp only [World.setRow, Array.getElem?_modify]; rw [if_neg (fun e => hne (by rw [e]))]
    exact this.trans (h.block i hi hne)⟩
theorem grew_setCell (h : w.grownBy w' (some z)) (i : Nat) (u : Value) : w.grownBy (w'.setCell ⟨z, i, none⟩ u) (some z) :=
  ⟨h.os, h.tape, h.output, by simpa using h.size, fun k hk hne => (Below.heap_setCell w' ⟨z, i, none⟩ u k (fun e => hne (by rw [e]))).trans (h.block k hk hne)⟩
theorem OwnB.moved {B : Nat} {v : Value} {l : List UInt8} (h : OwnB w B v l) (hg : w.grownBy w' (some z)) (hv : v.ownBlock ≠ some z) : OwnB w' B v l := ⟨h.own.kept hg (.inr hv)⟩
theorem below_moved {a : World} {B : Nat} (h : Below B a w) (hg : w.grownBy w' (some z)) (hB : B ≤ z) (hs : B ≤ w.heap.size) : Below B a w' := h.grown hg hs fun k hk => by injection hk; omega
end
theorem ReadsB.one (w : World) (x : UInt8) : ReadsB (w.alloc (.cells #[.int .u8 (n8 x)] 5)) (w.heap.size + 1) (some ⟨w.heap.size, 0, none⟩) 1 [x] := by
  refine ⟨rfl, rfl, fun _ => ⟨_, rfl, Nat.lt_succ_self _, fun j u hu => ?_⟩⟩
  rcases j with _ | j
  · have e : U8 x = u := by injection hu
    subst e
    rw [Addr.add_zero']
    exact (Blk.nu (w := w) (t := 5) (cs := #[.int .u8 (n8 x)]) rfl).cell 0
  · have : (none : Option Value) = some u := hu
    cases this
/-- One element of an array that lies in a slot. -/
theorem run_index_arr {P : Program} {w : World} {ty elem : TypeId} {n : Nat} (hu : P.underlying ty = some (.array n elem)) (hi : (P.info? elem).map (·.size) = some 1) (ha : ((P.underlying elem).map isAggD) = some false) (l : List UInt8) (hl : l.length = n) (j : Nat) (hj : j < n) :
    (Instr.index ty (.agg (arr l)) (.int .i64 (j : Int))).run P w = .ok (.int .u8 (n8 (nth l j))) w := by
  have hag : (isAgg elem).run P w = .ok false w := by
    cases hd : P.underlying elem with
    | none => simp [hd] at ha
    | some d =>
      unfold isAgg
      rw [Sem.run_bind, run_underlying hd w]
      rw [hd] at ha
      cases d <;> simp_all [isAggD]
  have hg := arr_get l j (by omega)
  have hjn : (j : Int) < (n : Int) := by omega
  simp [Instr.index, asIntOf, run_underlying hu, run_sizeOf hi, part, hag, hjn, hg]
  omega
section
variable {w w' : World} {base base' : Nat} {e e' : TypeId} {size size' n n' : Nat} {v v' : Value} {xs xs' : List Value}
theorem own_heap (h : w.ownsRow base e size v n xs) (g : Nat) (hg : v.ownBlock = some g) : ∃ cur, w.heap[g]? = some (.cells cur e (0, 0)) := by
  obtain ⟨_, h2⟩ := h
  rcases h2 with ⟨rfl, _⟩ | ⟨g', cap, cur, rfl, _, hh, _⟩
  · simp [Value.ownBlock] at hg
  · have : g' = g := by simpa [Value.ownBlock] using hg
    subst this
    exact ⟨cur, hh⟩
/-- Two rows of unlike element types lie in two blocks. -/
theorem own_own_ne (h : w.ownsRow base e size v n xs) (h' : w.ownsRow base' e' size' v' n' xs') (hne : e ≠ e') (g : Nat) (hg : v.ownBlock = some g) : v'.ownBlock ≠ some g := by
  intro hg'
  obtain ⟨c1, h1⟩ := own_heap h g hg
  obtain ⟨c2, h2⟩ := own_heap h' g hg'
  rw [h1] at h2
  injection h2 with h2
  injection h2 with _ ht
  exact hne ht
theorem own_blk_ne (h : w.ownsRow base e size v n xs) {g : Nat} {t : TypeId} {cs : Array Value} (hb : Blk w g t cs) (hne : e ≠ t) : v.ownBlock ≠ some g := by
  intro hg
  obtain ⟨c1, h1⟩ := own_heap h g hg
  have h2 := hb.is
  rw [h1] at h2
  injection h2 with h2
  injection h2 with _ ht
  exact hne ht
theorem own_cells {g cap : Nat} (h : w.ownsRow base e size (.slice (some ⟨g, 0, none⟩) n cap) n xs) (off : Nat) (ys : List Value) (hy : ∀ j u, ys[j]? = some u → xs[off + j]? = some u) : Cells w ⟨g, off, none⟩ ys := by
  refine ⟨fun j u hu => ?_⟩
  have hadd : (⟨g, off, none⟩ : Addr).add j = ⟨g, off + j, none⟩ := by unfold Addr.add; split <;> simp_all
  have h1 := hy j u hu
  have hlt : off + j < xs.length := by
    rcases Nat.lt_or_ge (off + j) xs.length with hlt | hge
    · exact hlt
    · rw [List.getElem?_eq_none hge] at h1; cases h1
  rw [hadd, h.cellAt (off + j) (by rw [← h.1]; exact hlt)]
  exact h1
theorem Cells.grown {ad : Addr} {ys : List Value} {row : Option Nat} (h : Cells w ad ys) (hg : w.grownBy w' row) (hb : ad.block < w.heap.size) (hr : some ad.block ≠ row) : Cells w' ad ys :=
  h.keep fun p hp => World.cell?_of_block (hg.block p.block (by omega) (by rw [hp]; exact hr))
theorem Cells.alloc {ad : Addr} {ys : List Value} (h : Cells w ad ys) (hb : ad.block < w.heap.size) (o : Obj) : Cells (w.alloc o) ad ys :=
  h.keep fun p hp => World.cell?_alloc_lt w o p (by omega)
end
section
variable {P : Program} {w : World} {o : Oper} {a : Act} {K : Act → World → Prop} {Q : Exit → Act → World → Prop} {ops : Array Oper} {E : Prop}
/-- A whole array loaded, and a slice turned into an array, inside a region that draws. -/
theorem step_load (hgd : o.guard = none) (ty : TypeId) (x : Operand) (ho : o.op = .load ty x) (ad : Addr) (hx : a.eval x = .pointer (some ad)) (n : Nat) (ht : AggT P ty n) (xs : List Value) (hl : xs.length = n)
    (hc : Cells w ad xs) (h : K (a.put o.dst (.agg xs.toArray)) w) : if Region.wanted o (yielded ops a.tmps) = true then Oper.wp P o a w K Q else E := by
  rw [if_pos (by simp [Region.wanted, hgd])]
  unfold Oper.wp
  rw [run_execOp_load ho hx (run_loadVar_cells ht ad xs hl hc.is)]
  exact h
theorem step_load_arr (hgd : o.guard = none) (ty : TypeId) (x : Operand) (ho : o.op = .load ty x) (ad : Addr) (hx : a.eval x = .pointer (some ad)) (n : Nat) (ht : AggT P ty n) (l : List UInt8) (hl : l.length = n)
    (hc : Cells w ad (l.map U8)) (h : K (a.put o.dst (.agg (arr l))) w) : if Region.wanted o (yielded ops a.tmps) = true then Oper.wp P o a w K Q else E :=
  step_load hgd ty x ho ad hx n ht _ (by rw [List.length_map, hl]) hc h
theorem step_toArray (hgd : o.guard = none) (arr : TypeId) (x : Operand) (ho : o.op = .sliceToArrayPointer arr x) (b : Option Addr) (len cap : Nat) (hx : a.eval x = .slice b len cap)
    {n : Nat} {e : TypeId} (hu : P.underlying arr = some (.array n e)) (hle : n ≤ len) (h : K (a.put o.dst (.pointer b)) w) : if Region.wanted o (yielded ops a.tmps) = true then Oper.wp P o a w K Q else E := by
  rw [if_pos (by simp [Region.wanted, hgd])]
  have hr : (execOp a.eval o).run P w = .ok (.value (.pointer b)) w := by
    unfold execOp
    simp only [ho, hx]
    simp [run_arrayAt hu b len cap hle]
  unfold Oper.wp
  rw [hr]
  exact h
end
end Go.Proofs.YthigbggacgiamaaDoor

namespace Go.Proofs.YthigbggacgiamaaDoor
open Go.RowKit
def str (l : List UInt8) : ByteArray := ⟨l.toArray⟩
theorem str_size (l : List UInt8) : (str l).size = l.length := by simp [str, ByteArray.size]
theorem str_append (a b : List UInt8) : str a ++ str b = str (a ++ b) := by
  apply ByteArray.ext
  simp [str]
theorem str_inj (a b : List UInt8) : str a = str b ↔ a = b := by
  constructor
  · intro h
    have := congrArg (fun s => s.data.toList) h
    simpa [str] using this
  · rintro rfl; rfl
theorem str_nil : ByteArray.empty = str [] := rfl
section
variable {P : Program} {w : World}
theorem run_toString {src dst e : TypeId} (hs : P.underlying src = some (.slice e)) (he : P.underlying e = some (.int .u8)) (hd : P.underlying dst = some .string) (B : Nat) (A : Option Addr) (n c : Nat) (l : List UInt8) (hr : ReadsB w B A n l) :
    (convert src dst (.slice A n c)).run P w = .ok (.string (str l)) w := by
  rcases A with _ | a
  · have h0 : l = [] := by
      rcases l with _ | ⟨x, l⟩
      · rfl
      · obtain ⟨ad, h, _⟩ := hr.is.2 (by rw [← hr.len]; simp)
        cases h
    rw [run_convert_bytes_nil w src e hs he n c dst hd, h0, str_nil]
  · rw [run_convert_bytes_string w src dst e _ n c hs he hd]
    have hl : (loadCells a n).run P w = .ok ((l.map fun x => ((n8 x : Nat) : Int)).map (Value.int .u8)).toArray w := by
      have hm : (l.map fun x => ((n8 x : Nat) : Int)).map (Value.int .u8) = l.map U8 := by simp
      rw [hm]
      have hn : (l.map U8).length = n := by rw [List.length_map, hr.len]
      have := run_loadCells_list (P := P) w a (l.map U8) (fun j v hv => by
        have hj : j < n := by
          rcases Nat.lt_or_ge j n with hlt | hge
          · exact hlt
          · rw [List.getElem?_eq_none (by omega)] at hv; cases hv
        obtain ⟨ad, h, _, hc⟩ := hr.is.2 (by omega)
        injection h with h
        subst h
        exact hc j v hv)
      rw [hn] at this
      exact this
    rw [run_bytesToString w a n c _ hl, foldl_push_bytes]
    congr 2
    apply ByteArray.ext
    simp [str, n8, Function.comp_def]
theorem run_str_add (t : TypeId) (a b : List UInt8) (h : a.length + b.length ≤ 9223372036854775807) : (binOp .add t (.string (str a)) (.string (str b))).run P w = .ok (.string (str (a ++ b))) w := by
  have := run_string_add_sum (P := P) (w := w) (str a) (str b) (by rw [str_size, str_size]; exact h)
  rw [← str_append]
  exact this
theorem run_str_eql (t : TypeId) (a b : List UInt8) : (binOp .eql t (.string (str a)) (.string (str b))).run P w = .ok (.bool (decide (a = b))) w := by
  have e : ((str a).toList == (str b).toList) = decide (a = b) := by
    rw [str, str, ByteArray.toList_mk, ByteArray.toList_mk, Bool.eq_iff_iff, beq_iff_eq, decide_eq_true_eq]
  show (Op.stringOp .eql (str a) (str b)).run P w = _
  simp [Op.stringOp, e]
end
theorem OwnB.reads_any {w : World} {B : Nat} {A : Option Addr} {n c : Nat} {l : List UInt8} (h : OwnB w B (.slice A n c) l) : n = l.length ∧ ReadsB w w.heap.size A n l := by
  have hn : n = l.length := by
    rcases h.own.2 with ⟨e, h0⟩ | ⟨g, cap, cur, e, _⟩
    · injection e with _ e2 _; have : l.length = 0 := by simpa using h0
      omega
    · injection e
  subst hn
  exact ⟨rfl, rfl, Reads.of_own h.own⟩
theorem OwnB.slice {w : World} {B : Nat} {v : Value} {l : List UInt8} (h : OwnB w B v l) : ∃ A c, v = .slice A l.length c := by
  rcases h.own.2 with ⟨e, h0⟩ | ⟨g, cap, cur, e, _⟩
  · have : l.length = 0 := by simpa using h0
    exact ⟨none, 0, by rw [e, this]⟩
  · exact ⟨_, _, e⟩
end Go.Proofs.YthigbggacgiamaaDoor

namespace Go.Proofs.YthigbggacgiamaaDoor
open Go.RowKit
theorem wrap_u32_nat (k : Nat) : IntKind.u32.wrap (k : Int) = ((n32 (UInt32.ofNat k) : Nat) : Int) := by
  rw [wrap_n32, BitVec.ofInt_natCast]; rfl
theorem OwnB.later {w w' : World} {B : Nat} {v : Value} {l : List UInt8} (h : OwnB w B v l) (hb : Below w.heap.size w w') : OwnB w' B v l := by
  have hg : w.grownBy w' (some w.heap.size) := ⟨hb.os, hb.tape, hb.output, hb.size, fun i hi _ => hb.block i hi⟩
  refine h.moved hg ?_
  rcases h.size with h1 | ⟨g', h1, _, h2⟩
  · rw [h1]; intro e; cases e
  · rw [h1]; intro e; injection e; omega
theorem ReadsB.drew {w : World} {B : Nat} {A : Option Addr} {n : Nat} {l : List UInt8} (h : ReadsB w B A n l) : ReadsB w.drew B A n l := ⟨h.len, h.is.drew⟩
theorem ReadsB.take {w : World} {B : Nat} {A : Option Addr} {n k : Nat} {l : List UInt8} (h : ReadsB w B A n l) (hk : k ≤ n) : ReadsB w B A k (l.take k) := by
  refine ⟨by rw [List.length_take, h.len]; omega, ?_⟩
  have := h.is.head hk
  rwa [Nat.mul_one, ← List.map_take] at this
theorem ReadsB.drop {w : World} {B : Nat} {A : Option Addr} {n k c : Nat} {l : List UInt8} (h : ReadsB w B A n l) (hk : k ≤ n) (hc : n ≤ c) : ReadsB w B (if c = k then A else A.map (·.add k)) (n - k) (l.drop k) := by
  refine ⟨by rw [List.length_drop, h.len], ?_⟩
  have := h.is.cut hk hc
  rwa [Nat.mul_one, ← List.map_drop] at this
theorem take_next (l : List UInt8) (k : Nat) (h : k < l.length) : l.take (k + 1) = l.take k ++ [nth l k] := by
  rw [List.take_add_one, List.getElem?_eq_getElem h]
  simp [nth, h]
theorem ofNat32_succ (m : Nat) : UInt32.ofNat (m + 1) = UInt32.ofNat m + 1 := by rw [UInt32.ofNat_add]; rfl
/-- One byte of a slice that came in. -/
theorem ReadsB.cell {w : World} {B : Nat} {A : Option Addr} {n k : Nat} {l : List UInt8} (h : ReadsB w B A n l) (hk : k < n) : ∃ ad, A = some ad ∧ ad.block < B ∧ w.cell? (ad.add k) = some (.int .u8 (n8 (nth l k))) := by
  obtain ⟨ad, u, hA, had, hu, hcu⟩ := h.is.at_ (k := k) hk
  have h1 := arr_get l k (by rw [h.len]; exact hk)
  have h2 : (l.map U8)[k]? = some (.int .u8 (n8 (nth l k))) := by simpa [arr] using h1
  rw [h2] at hu
  injection hu with hu
  exact ⟨ad, hA, had, by rw [hcu, hu]⟩
/-- A byte appended, inside a region that draws. -/
theorem step_appendB {w : World} {ops : Array Oper} {o : Oper} {a : Act} {K : Act → World → Prop} {Q : Exit → Act → World → Prop} {E : Prop} (hgd : o.guard = none) (s x : Operand)
    (ho : o.op = .call { callee := .builtin .append, args := #[s, x], argTypes := #[30, 30] })
    (B : Nat) (v : Value) (l : List UInt8) (hs : a.eval s = v) (hown : OwnB w B v l) (B' : Nat) (A : Option Addr) (m c : Nat) (ys : List UInt8) (hx : a.eval x = .slice A m c) (hr : ReadsB w B' A m ys)
    (hlen : l.length + ys.length ≤ 140737488355328) (hB : B ≤ w.heap.size)
    (h : ∀ v' w', OwnB w' B v' (l ++ ys) → w.grownBy w' v.ownBlock → (v'.ownBlock = v.ownBlock ∨ v'.ownBlock = some w.heap.size) → K (a.put o.dst v') w') :
    if Region.wanted o (yielded ops a.tmps) = true then Oper.wp Tryd.prog o a w K Q else E := by
  obtain ⟨i0, hi0, hz0, hz1, hz2⟩ := info_parts u8_info
  have hm := hr.len
  refine step_append_any w hgd s x _ ho B 5 i0 _ 1 1 Tryd.underlying30 hi0 hz0 hz1 hz2 rfl (by omega) v l.length (l.map U8) hs hown.own B' A m c (ys.map U8) hx hr.is (by simp [Value.oneCell']) (by unfold maxLen; omega) (by omega) hB ?_
  intro v' w' h1 h2 h3
  refine h v' w' ⟨?_⟩ h2 h3
  rw [List.length_append, hm, List.map_append]; exact h1
end Go.Proofs.YthigbggacgiamaaDoor

namespace Go.Proofs.YthigbggacgiamaaDoor
open Go.RowKit
namespace Suite
def fillStep (q : List UInt8) (k : Nat) (s : List UInt8) : List UInt8 := s.set k (nth q k)
theorem fill_take (n : Nat) (q : List UInt8) : ∀ k, k ≤ q.length → k ≤ n → iter (fillStep q) k (List.replicate n 0) = q.take k ++ List.replicate (n - k) 0
  | 0, _, _ => rfl
  | k + 1, hk, h16 => by
    rw [iter, fill_take n q k (by omega) (by omega), fillStep, take_next _ _ (by omega), List.set_append]
    rw [if_neg (by rw [List.length_take]; omega), List.length_take, show k - min k q.length = 0 by omega, show n - k = (n - (k + 1)) + 1 by omega, List.replicate_succ, List.set_cons_zero, List.append_assoc]
    rfl
theorem fill_all (q : List UInt8) : iter (fillStep q) q.length (List.replicate q.length 0) = q := by
  rw [fill_take _ _ _ (Nat.le_refl _) (Nat.le_refl _), List.take_length, Nat.sub_self]; simp
theorem fillStep_len (q s : List UInt8) (k : Nat) : (iter (fillStep q) k s).length = s.length := iter_keeps _ _ (fun k s => by simp [fillStep]) k s
end Suite
end Go.Proofs.YthigbggacgiamaaDoor

namespace Go.Proofs.YthigbggacgiamaaDoor
open Go.RowKit
theorem run_noagg {P : Program} {w : World} {elem : TypeId} (ha : ((P.underlying elem).map isAggD) = some false) : (isAgg elem).run P w = .ok false w := by
  cases hd : P.underlying elem with
  | none => simp [hd] at ha
  | some d =>
    unfold isAgg
    rw [Sem.run_bind, run_underlying hd w]
    rw [hd] at ha
    cases d <;> simp_all [isAggD]
def eqTo (a b : List UInt8) : Nat → Nat → Bool
  | _, 0 => true
  | i, k + 1 => (nth a i == nth b i) && eqTo a b (i + 1) k
theorem eqTo_all (a b : List UInt8) : ∀ (k i : Nat), eqTo a b i k = true ↔ ∀ j, i ≤ j → j < i + k → nth a j = nth b j
  | 0, i => by simp [eqTo]; omega
  | k + 1, i => by
    simp only [eqTo, Bool.and_eq_true, beq_iff_eq, eqTo_all a b k (i + 1)]
    constructor
    · rintro ⟨h0, h⟩ j hij hj
      by_cases e : j = i
      · rw [e]; exact h0
      · exact h j (by omega) (by omega)
    · intro h
      exact ⟨h i (Nat.le_refl _) (by omega), fun j h1 h2 => h j (by omega) (by omega)⟩
theorem run_equalIn_arr {P : Program} (w : World) (d : Nat) {t elem : TypeId} {n : Nat} (hu : P.underlying t = some (.array n elem)) (he : P.underlying elem = some (.int .u8)) (hi : (P.info? elem).map (·.size) = some 1) (a b : List UInt8) (ha : a.length = n) (hb : b.length = n) :
    (Op.equalIn (d + 2) t (.agg (arr a)) (.agg (arr b))).run P w = .ok (decide (a = b)) w := by
  have hag : (isAgg elem).run P w = .ok false w := run_noagg (by rw [he]; rfl)
  have hfin : decide (a = b) = eqTo a b 0 n := by
    rw [Bool.eq_iff_iff, decide_eq_true_eq, eqTo_all]
    constructor
    · rintro rfl j _ _; rfl
    · intro h
      apply List.ext_getElem (by omega)
      intro i h1 h2
      have := h i (Nat.zero_le _) (by omega)
      simpa [nth, h1, h2] using this
  rw [hfin]
  rw [show d + 2 = (d + 1) + 1 from rfl, Op.equalIn]
  simp only [Sem.run_bind, run_underlying hu, Result.andThen_ok, run_sizeOf hi, Nat.mul_one]
  rw [Std.Legacy.Range.forIn_eq_forIn_range']
  simp only [Std.Legacy.Range.size, Nat.sub_zero, Nat.add_sub_cancel, Nat.div_one]
  have key : ∀ k i, i + k = n →
      (Sem.run P (forIn (List.range' i k) ((none : Option Bool), PUnit.unit) fun i (_ : Option Bool × PUnit) => do
        let __do_lift ← part elem (arr a) i
        let __do_lift_1 ← part elem (arr b) i
        let __do_lift ← Op.equalIn (d + 1) elem __do_lift __do_lift_1
        if (!__do_lift) = true then pure (ForInStep.done (some false, PUnit.unit))
        else pure (ForInStep.yield (none, PUnit.unit))) w) = .ok (if eqTo a b i k then (none, PUnit.unit) else (some false, PUnit.unit)) w := by
    intro k
    induction k with
    | zero => intro i _; simp [eqTo]
    | succ k ih =>
      intro i hik
      have p1 : (part elem (arr a) i).run P w = .ok (.int .u8 (n8 (nth a i))) w := by
        simp [part, hag, arr_get a i (by omega)]
      have p2 : (part elem (arr b) i).run P w = .ok (.int .u8 (n8 (nth b i))) w := by
        simp [part, hag, arr_get b i (by omega)]
      rw [List.range'_succ]
      simp only [List.forIn_cons, Sem.run_bind, p1, p2, Result.andThen_ok, run_equalIn_int w d elem _ _ _ _ he, beq_n8, eqTo]
      by_cases hc : (nth a i == nth b i) = true
      · have := ih (i + 1) (by omega)
        simp only [hc, Bool.not_true, Bool.false_eq_true, if_false, Sem.run_pure, Result.andThen_ok, Bool.true_and]
        exact this
      · have hc := Bool.not_eq_true _ ▸ hc
        simp [hc]
  have k0 := key n 0 (by omega)
  rw [k0]
  cases eqTo a b 0 n <;> simp
theorem guard16 : Tryd.prog.eqGuardType Tryd.prog.depth 87 = false := by kernel_rfl
theorem one8 : (Tryd.prog.info? 5).map (·.size) = some 1 := by kernel_rfl
theorem eq16 (a b : List UInt8) (ha : a.length = 16) (hb : b.length = 16) (W : World) : (Op.equalIn 10000 87 (.agg (arr a)) (.agg (arr b))).run Tryd.prog W = .ok (decide (a = b)) W := run_equalIn_arr W 9998 Tryd.underlying87 Tryd.underlying5 one8 a b ha hb
end Go.Proofs.YthigbggacgiamaaDoor

namespace Go.Proofs.YthigbggacgiamaaDoor
open Go.RowKit
namespace Aes
def twice (a : UInt8) : UInt8 := a <<< 1 ^^^ a >>> 7 * 0x1b
def rotl (a : UInt8) (n : Nat) : UInt8 := shl8 a n ||| shr8 a (8 - n)
def dbl (a : UInt8) : UInt8 := if a >>> 7 = 1 then a <<< 1 ^^^ 0x1b else a <<< 1
def boxQ (q : UInt8) : UInt8 :=
  let q1 := q ^^^ q <<< 1
  let q2 := q1 ^^^ q1 <<< 2
  let q3 := q2 ^^^ q2 <<< 4
  q3 ^^^ q3 >>> 7 * 9
def boxX (q : UInt8) : UInt8 := q ^^^ rotl q 1 ^^^ rotl q 2 ^^^ rotl q 3 ^^^ rotl q 4
def boxStep (_ : Nat) (s : List UInt8 × UInt8 × UInt8) : List UInt8 × UInt8 × UInt8 :=
  (s.1.set (n8 (s.2.1 ^^^ twice s.2.1)) (boxX (boxQ s.2.2) ^^^ 0x63), s.2.1 ^^^ twice s.2.1, boxQ s.2.2)
def boxRun (k : Nat) : List UInt8 × UInt8 × UInt8 := iter boxStep k (List.replicate 256 0, 1, 1)
def sbox : List UInt8 := (boxRun 255).1.set 0 0x63
theorem boxRun_len (k : Nat) : (boxRun k).1.length = 256 :=
  (iter_keeps boxStep (fun s => s.1.length) (fun k s => by simp [boxStep]) k _).trans List.length_replicate
-- the reference's
def timesStep (b : UInt8) (i : Nat) (s : UInt8 × UInt8) : UInt8 × UInt8 :=
  (if shr8 b i &&& 1 = 1 then s.1 ^^^ s.2 else s.1, if s.2 >>> 7 = 1 then s.2 <<< 1 ^^^ 0x1b else s.2 <<< 1)
def times (a b : UInt8) : UInt8 := (iter (timesStep b) 8 (0, a)).1
def refC (b : UInt8) (k : Nat) (c : UInt8) : UInt8 := if k < 7 then times (times c c) b else times c c
def refX (c : UInt8) : UInt8 := c ^^^ rotl c 1 ^^^ rotl c 2 ^^^ rotl c 3 ^^^ rotl c 4 ^^^ 0x63
def refBox (b : UInt8) : UInt8 := refX (iter (refC b) 8 1)
def boxesStep (k : Nat) (s : List UInt8) : List UInt8 := s.set k (refBox (UInt8.ofNat k))
def boxesRun (k : Nat) : List UInt8 := iter boxesStep k (List.replicate 256 0)
theorem boxesRun_len (k : Nat) : (boxesRun k).length = 256 :=
  (iter_keeps boxesStep (fun s => s.length) (fun k s => by simp [boxesStep]) k _).trans List.length_replicate
-- a block XOR a key
def xorStep (b : List UInt8) (k : Nat) (s : List UInt8) : List UInt8 := s.set k (nth s k ^^^ nth b k)
def xor16 (a b : List UInt8) : List UInt8 := iter (xorStep b) 16 a
theorem xorStep_len (b s : List UInt8) (k : Nat) : (iter (xorStep b) k s).length = s.length := iter_keeps _ _ (fun k s => by simp [xorStep]) k s
-- the columns mixed, in place
def mixRow (c : Nat) (x first : UInt8) (r : Nat) (b : List UInt8) : List UInt8 :=
  b.set (c + r) (nth b (c + r) ^^^ (x ^^^ twice (nth b (c + r) ^^^ (if r < 3 then nth b (c + r + 1) else first))))
def mixCol (j : Nat) (b : List UInt8) : List UInt8 :=
  iter (mixRow (4 * j) (nth b (4 * j) ^^^ nth b (4 * j + 1) ^^^ nth b (4 * j + 2) ^^^ nth b (4 * j + 3)) (nth b (4 * j))) 4 b
def mix (b : List UInt8) : List UInt8 := iter mixCol 4 b
theorem mixRow_len (c : Nat) (x f : UInt8) (k : Nat) (b : List UInt8) : (iter (mixRow c x f) k b).length = b.length := iter_keeps _ _ (fun k s => by simp [mixRow]) k b
theorem mixCol_len (k : Nat) (b : List UInt8) : (iter mixCol k b).length = b.length := iter_keeps _ _ (fun k s => mixRow_len _ _ _ _ _) k b
-- a block encrypted
def subStep (b : List UInt8) (k : Nat) (c : List UInt8) : List UInt8 := c.set k (nth sbox (n8 (nth b (5 * k % 16))))
def sub (b : List UInt8) : List UInt8 := iter (subStep b) 16 (List.replicate 16 0)
theorem subStep_len (b s : List UInt8) (k : Nat) : (iter (subStep b) k s).length = s.length := iter_keeps _ _ (fun k s => by simp [subStep]) k s
theorem sub_len (b : List UInt8) : (sub b).length = 16 := (subStep_len _ _ _).trans List.length_replicate
theorem mix_len (b : List UInt8) : (mix b).length = b.length := mixCol_len _ _
theorem xor16_len (a b : List UInt8) : (xor16 a b).length = a.length := xorStep_len _ _ _
def roundStep (rs : List (List UInt8)) (k : Nat) (b : List UInt8) : List UInt8 :=
  xor16 (if k + 1 < rs.length - 1 then mix (sub b) else sub b) (rs.getD (k + 1) [])
def encRun (rs : List (List UInt8)) (b : List UInt8) (k : Nat) : List UInt8 := iter (roundStep rs) k (xor16 b (rs.getD 0 []))
def enc (rs : List (List UInt8)) (b : List UInt8) : List UInt8 := encRun rs b (rs.length - 1)
theorem roundStep_len (rs : List (List UInt8)) (k : Nat) (b : List UInt8) : (roundStep rs k b).length = 16 := by
  unfold roundStep
  split <;> simp [xor16_len, mix_len, sub_len]
theorem encRun_zero (rs : List (List UInt8)) (b : List UInt8) : encRun rs b 0 = xor16 b (rs.getD 0 []) := by rw [encRun, iter]
theorem encRun_succ (rs : List (List UInt8)) (b : List UInt8) (k : Nat) : encRun rs b (k + 1) = roundStep rs k (encRun rs b k) := by rw [encRun, iter, encRun]
theorem encRun_len (rs : List (List UInt8)) (b : List UInt8) (hb : b.length = 16) (k : Nat) : (encRun rs b k).length = 16 := by
  cases k with
  | zero => rw [encRun_zero, xor16_len]; exact hb
  | succ k => rw [encRun_succ]; exact roundStep_len rs k _
theorem enc_len (rs : List (List UInt8)) (b : List UInt8) (hb : b.length = 16) : (enc rs b).length = 16 := encRun_len _ _ hb _
-- the round keys
def sb (x : UInt8) : UInt8 := nth sbox (n8 x)
def extStep (n : Nat) (t : List UInt8) (j : Nat) (al : List UInt8) : List UInt8 := al ++ [nth al (al.length - n) ^^^ nth t j]
def last4 (al : List UInt8) : List UInt8 := (al.drop (al.length - 4)).take 4
def sbStep (t0 : List UInt8) (j : Nat) (t : List UInt8) : List UInt8 := t.set j (sb (nth t0 j))
def keyT (n : Nat) (al : List UInt8) (one : UInt8) : List UInt8 :=
  if al.length % n = 0 then [sb (nth (last4 al) 1) ^^^ one, sb (nth (last4 al) 2), sb (nth (last4 al) 3), sb (nth (last4 al) 0)]
  else if n = 32 ∧ al.length % n = 16 then iter (sbStep (last4 al)) 4 (last4 al) else last4 al
def keyOne (n : Nat) (al : List UInt8) (one : UInt8) : UInt8 := if al.length % n = 0 then twice one else one
def keyStep (n : Nat) (_ : Nat) (s : List UInt8 × UInt8) : List UInt8 × UInt8 := (iter (extStep n (keyT n s.1 s.2)) 4 s.1, keyOne n s.1 s.2)
def keyRun (key : List UInt8) (k : Nat) : List UInt8 × UInt8 := iter (keyStep key.length) k (key, 1)
theorem ext_len (n : Nat) (t al : List UInt8) (k : Nat) : (iter (extStep n t) k al).length = al.length + k := by
  induction k with
  | zero => rfl
  | succ k ih => rw [iter, extStep, List.length_append, ih]; rfl
theorem keyRun_zero (key : List UInt8) : keyRun key 0 = (key, 1) := rfl
theorem keyRun_succ (key : List UInt8) (k : Nat) : keyRun key (k + 1) = keyStep key.length k (keyRun key k) := rfl
theorem keyRun_len (key : List UInt8) (k : Nat) : (keyRun key k).1.length = key.length + 4 * k := by
  induction k with
  | zero => rfl
  | succ k ih => rw [keyRun_succ, keyStep, ext_len, ih]; omega
theorem last4_len (al : List UInt8) (h : 4 ≤ al.length) : (last4 al).length = 4 := by
  rw [last4, List.length_take, List.length_drop]; omega
theorem sbStep_len (t0 t : List UInt8) (k : Nat) : (iter (sbStep t0) k t).length = t.length := iter_keeps _ _ (fun k s => by simp [sbStep]) k t
theorem keyT_len (n : Nat) (al : List UInt8) (one : UInt8) (h : 4 ≤ al.length) : (keyT n al one).length = 4 := by
  unfold keyT
  split
  · rfl
  · split
    · rw [sbStep_len, last4_len _ h]
    · exact last4_len _ h
def rounds (n : Nat) : Nat := if n = 16 then 40 else 52
def keyAll (key : List UInt8) : List UInt8 := (keyRun key (rounds key.length)).1
/-- A text in pieces of sixteen. -/
def pieces (al : List UInt8) (k : Nat) : List (List UInt8) := (List.range k).map fun i => (al.drop (16 * i)).take 16
theorem pieces_len (al : List UInt8) (k : Nat) : (pieces al k).length = k := by simp [pieces]
theorem pieces_get (al : List UInt8) (k i : Nat) (h : i < k) : (pieces al k).getD i [] = (al.drop (16 * i)).take 16 := by
  simp [pieces, h]
def keys (key : List UInt8) : List (List UInt8) := pieces (keyAll key) (if key.length = 16 then 11 else 15)
theorem mix_eq (b : List UInt8) : mix b = iter mixCol 4 b := rfl
theorem sub_eq (b : List UInt8) : sub b = iter (subStep b) 16 (List.replicate 16 0) := rfl
theorem xor16_eq (a b : List UInt8) : xor16 a b = iter (xorStep b) 16 a := rfl
theorem sbox_eq : sbox = (boxRun 255).1.set 0 0x63 := rfl
theorem boxRun_eq (k : Nat) : boxRun k = iter boxStep k (List.replicate 256 0, 1, 1) := rfl
theorem boxRun_succ (k : Nat) : boxRun (k + 1) = boxStep k (boxRun k) := rfl
theorem boxesRun_succ (k : Nat) : boxesRun (k + 1) = boxesStep k (boxesRun k) := rfl
theorem boxRun_zero : boxRun 0 = (List.replicate 256 0, 1, 1) := rfl
theorem boxesRun_zero : boxesRun 0 = List.replicate 256 0 := rfl
theorem times_eq (a b : UInt8) : times a b = (iter (timesStep b) 8 (0, a)).1 := rfl
theorem refBox_eq (b : UInt8) : refBox b = refX (iter (refC b) 8 1) := rfl
attribute [irreducible] keyT keyRun keyAll mix sub xor16 sbox boxRun boxesRun enc encRun times refBox
end Aes
end Go.Proofs.YthigbggacgiamaaDoor

namespace Go.Proofs.YthigbggacgiamaaDoor
open Go.RowKit
namespace Aes
/-- A counter, from place i downwards, f places at most. -/
def incAt : Nat → Nat → List UInt8 → List UInt8
  | 0, _, l => l
  | f + 1, i, l => if nth l i + 1 = 0 then incAt f (i - 1) (l.set i (nth l i + 1)) else l.set i (nth l i + 1)
def inc (l : List UInt8) : List UInt8 := incAt 4 15 l
theorem incAt_len : ∀ (f i : Nat) (l : List UInt8), (incAt f i l).length = l.length
  | 0, _, _ => rfl
  | f + 1, i, l => by
    rw [incAt]
    split
    · rw [incAt_len f, List.length_set]
    · rw [List.length_set]
theorem inc_len (l : List UInt8) : (inc l).length = l.length := incAt_len _ _ _
theorem incAt_zero (i : Nat) (l : List UInt8) : incAt 0 i l = l := rfl
theorem incAt_on (f i : Nat) (l : List UInt8) (h : nth l i + 1 = 0) : incAt (f + 1) i l = incAt f (i - 1) (l.set i (nth l i + 1)) := by rw [incAt, if_pos h]
theorem incAt_off (f i : Nat) (l : List UInt8) (h : ¬ nth l i + 1 = 0) : incAt (f + 1) i l = l.set i (nth l i + 1) := by rw [incAt, if_neg h]
def xorAt (start : Nat) (x : List UInt8) (i : Nat) (out : List UInt8) : List UInt8 := out.set (start + i) (nth out (start + i) ^^^ nth x i)
theorem xorAt_len (start : Nat) (x out : List UInt8) (k : Nat) : (iter (xorAt start x) k out).length = out.length := iter_keeps _ _ (fun k s => by simp [xorAt]) k out
def strStep (rs : List (List UInt8)) (j : Nat) (s : List UInt8 × List UInt8) : List UInt8 × List UInt8 :=
  (iter (xorAt (16 * j) (enc rs s.2)) (min 16 (s.1.length - 16 * j)) s.1, inc s.2)
def strRun (rs : List (List UInt8)) (ctr b : List UInt8) (j : Nat) : List UInt8 × List UInt8 := iter (strStep rs) j (b, ctr)
theorem strRun_zero (rs : List (List UInt8)) (ctr b : List UInt8) : strRun rs ctr b 0 = (b, ctr) := rfl
theorem strRun_succ (rs : List (List UInt8)) (ctr b : List UInt8) (j : Nat) : strRun rs ctr b (j + 1) = strStep rs j (strRun rs ctr b j) := rfl
theorem strRun_len (rs : List (List UInt8)) (ctr b : List UInt8) (j : Nat) : (strRun rs ctr b j).1.length = b.length ∧ (strRun rs ctr b j).2.length = ctr.length := by
  induction j with
  | zero => exact ⟨rfl, rfl⟩
  | succ j ih => rw [strRun_succ, strStep]; exact ⟨(xorAt_len _ _ _ _).trans ih.1, (inc_len _).trans ih.2⟩
/-- A text XORed with the blocks that a counter counts. -/
def stream (rs : List (List UInt8)) (ctr b : List UInt8) : List UInt8 := (strRun rs ctr b ((b.length + 15) / 16)).1
theorem stream_len (rs : List (List UInt8)) (ctr b : List UInt8) : (stream rs ctr b).length = b.length := (strRun_len _ _ _ _).1
theorem stream_eq (rs : List (List UInt8)) (ctr b : List UInt8) : stream rs ctr b = (strRun rs ctr b ((b.length + 15) / 16)).1 := rfl
theorem inc_eq (l : List UInt8) : inc l = incAt 4 15 l := rfl
attribute [irreducible] inc stream strRun
end Aes
end Go.Proofs.YthigbggacgiamaaDoor

namespace Go.Proofs.YthigbggacgiamaaDoor
open Go.RowKit
namespace Aes
theorem nth_set (l : List UInt8) (k i : Nat) (x : UInt8) (hk : k < l.length) : nth (l.set k x) i = if i = k then x else nth l i := by
  unfold nth
  by_cases h : i = k
  · subst h; simp [hk]
  · rw [if_neg h]; simp [List.getElem?_set, Ne.symm h]
def incN : Nat → List UInt8 → List UInt8
  | 0, l => l
  | m + 1, l => inc (incN m l)
theorem xorAt_get (start : Nat) (x out : List UInt8) : ∀ (m : Nat), start + m ≤ out.length → ∀ i, nth (iter (xorAt start x) m out) i = if start ≤ i ∧ i < start + m then nth out i ^^^ nth x (i - start) else nth out i
  | 0, _, i => by
    rw [iter, if_neg (by omega)]
  | m + 1, hm, i => by
    have ih := xorAt_get start x out m (by omega)
    rw [iter, xorAt, nth_set _ _ _ _ (by rw [xorAt_len]; omega)]
    by_cases h : i = start + m
    · subst h
      rw [if_pos rfl, ih, if_neg (by omega), if_pos (by omega), show start + m - start = m by omega]
    · rw [if_neg h, ih]
      by_cases h2 : start ≤ i ∧ i < start + m
      · rw [if_pos h2, if_pos (by omega)]
      · rw [if_neg h2, if_neg (by omega)]
theorem strRun_snd (rs : List (List UInt8)) (ctr b : List UInt8) : ∀ j, (strRun rs ctr b j).2 = incN j ctr
  | 0 => by rw [strRun_zero]; rfl
  | j + 1 => by rw [strRun_succ, strStep]; dsimp only; rw [strRun_snd rs ctr b j]; rfl
theorem strRun_get (rs : List (List UInt8)) (ctr b : List UInt8) : ∀ (j i : Nat), i < b.length → nth (strRun rs ctr b j).1 i = if i < 16 * j then nth b i ^^^ nth (enc rs (incN (i / 16) ctr)) (i % 16) else nth b i
  | 0, i, _ => by rw [strRun_zero, if_neg (by omega)]
  | j + 1, i, hi => by
    have ih := strRun_get rs ctr b j i hi
    have hl := (strRun_len rs ctr b j).1
    rw [strRun_succ, strStep]
    dsimp only
    by_cases hj : 16 * j ≤ b.length
    · rw [xorAt_get _ _ _ _ (by rw [hl]; omega), ih, strRun_snd, hl]
      by_cases h1 : i < 16 * j
      · rw [if_neg (by omega), if_pos h1, if_pos (by omega)]
      · by_cases h2 : i < 16 * (j + 1)
        · rw [if_pos (by omega), if_neg h1, if_pos h2, show i / 16 = j by omega, show i % 16 = i - 16 * j by omega]
        · rw [if_neg (by omega), if_neg h1, if_neg h2]
    · rw [hl, show min 16 (b.length - 16 * j) = 0 by omega, iter, ih, if_pos (by omega), if_pos (by omega)]
/-- What stands at each place of a stream. -/
theorem stream_get (rs : List (List UInt8)) (ctr b : List UInt8) (i : Nat) (hi : i < b.length) : nth (stream rs ctr b) i = nth b i ^^^ nth (enc rs (incN (i / 16) ctr)) (i % 16) := by
  rw [stream_eq, strRun_get _ _ _ _ _ hi, if_pos (by omega)]
theorem incN_add (m k : Nat) (l : List UInt8) : incN (m + k) l = incN m (incN k l) := by
  induction m with
  | zero => rw [Nat.zero_add]; rfl
  | succ m ih => rw [Nat.succ_add, incN, ih]; rfl
theorem nth_ext (a b : List UInt8) (hl : a.length = b.length) (h : ∀ i, i < a.length → nth a i = nth b i) : a = b := by
  apply List.ext_getElem hl
  intro i h1 h2
  have := h i h1
  simpa [nth, h1, h2] using this
theorem nth_append (a b : List UInt8) (i : Nat) : nth (a ++ b) i = if i < a.length then nth a i else nth b (i - a.length) := by
  unfold nth
  by_cases h : i < a.length
  · rw [if_pos h]; simp [List.getElem?_append, h]
  · rw [if_neg h]; simp [List.getElem?_append, h]
theorem nth_take (l : List UInt8) (m i : Nat) (h : i < m) : nth (l.take m) i = nth l i := by
  unfold nth; simp [List.getElem?_take, h]
theorem nth_drop (l : List UInt8) (m i : Nat) : nth (l.drop m) i = nth l (m + i) := by
  unfold nth; simp
/-- A stream goes on where it was left. -/
theorem stream_split (rs : List (List UInt8)) (ctr b : List UInt8) (m : Nat) (hm : 16 * m ≤ b.length) : stream rs ctr b = stream rs ctr (b.take (16 * m)) ++ stream rs (incN m ctr) (b.drop (16 * m)) := by
  apply nth_ext
  · rw [stream_len, List.length_append, stream_len, stream_len, List.length_take, List.length_drop]; omega
  · intro i hi
    rw [stream_len] at hi
    rw [stream_get _ _ _ _ hi, nth_append, stream_len, List.length_take]
    by_cases h : i < 16 * m
    · rw [if_pos (by omega), stream_get _ _ _ _ (by rw [List.length_take]; omega), nth_take _ _ _ h]
    · rw [if_neg (by omega), stream_get _ _ _ _ (by rw [List.length_drop]; omega), nth_drop, ← incN_add, show min (16 * m) b.length = 16 * m by omega, show 16 * m + (i - 16 * m) = i by omega,
        show (i - 16 * m) / 16 + m = i / 16 by omega, show (i - 16 * m) % 16 = i % 16 by omega]
-- the counter
def be (l : List UInt8) : UInt32 := (nth l 12).toUInt32 <<< 24 ||| (nth l 13).toUInt32 <<< 16 ||| (nth l 14).toUInt32 <<< 8 ||| (nth l 15).toUInt32
def setBE (l : List UInt8) (n : UInt32) : List UInt8 := (((l.set 12 (n >>> 24).toUInt8).set 13 (n >>> 16).toUInt8).set 14 (n >>> 8).toUInt8).set 15 n.toUInt8
theorem or_add (a b k : Nat) (hb : b < 2 ^ k) (ha : a % 2 ^ k = 0) : a ||| b = a + b := by
  have h : a = (a / 2 ^ k) <<< k := by rw [Nat.shiftLeft_eq]; exact (Nat.div_mul_cancel (Nat.dvd_of_mod_eq_zero ha)).symm
  rw [h, Nat.shiftLeft_add_eq_or_of_lt hb]
theorem be_toNat (l : List UInt8) : (be l).toNat = (nth l 12).toNat * 16777216 + (nth l 13).toNat * 65536 + (nth l 14).toNat * 256 + (nth l 15).toNat := by
  have h0 := (nth l 12).toNat_lt
  have h1 := (nth l 13).toNat_lt
  have h2 := (nth l 14).toNat_lt
  have h3 := (nth l 15).toNat_lt
  unfold be
  simp only [UInt32.toNat_or, UInt32.toNat_shiftLeft, UInt8.toNat_toUInt32]
  generalize (nth l 12).toNat = a at *
  generalize (nth l 13).toNat = b at *
  generalize (nth l 14).toNat = c at *
  generalize (nth l 15).toNat = d at *
  simp only [Nat.shiftLeft_eq]
  have e1 : (a * 2 ^ ((24 : UInt32).toNat % 32)) % 2 ^ 32 = a * 16777216 := by show (a * 2 ^ 24) % 2 ^ 32 = _; omega
  have e2 : (b * 2 ^ ((16 : UInt32).toNat % 32)) % 2 ^ 32 = b * 65536 := by show (b * 2 ^ 16) % 2 ^ 32 = _; omega
  have e3 : (c * 2 ^ ((8 : UInt32).toNat % 32)) % 2 ^ 32 = c * 256 := by show (c * 2 ^ 8) % 2 ^ 32 = _; omega
  rw [e1, e2, e3, or_add (a * 16777216) (b * 65536) 24 (by omega) (by omega), or_add _ (c * 256) 16 (by omega) (by omega), or_add _ d 8 (by omega) (by omega)]
theorem byte3 (n : UInt32) : (n >>> 24).toUInt8.toNat = n.toNat / 16777216 % 256 := by
  rw [UInt32.toNat_toUInt8, UInt32.toNat_shiftRight]; show n.toNat >>> 24 % 256 = _; rw [Nat.shiftRight_eq_div_pow]
theorem byte2 (n : UInt32) : (n >>> 16).toUInt8.toNat = n.toNat / 65536 % 256 := by
  rw [UInt32.toNat_toUInt8, UInt32.toNat_shiftRight]; show n.toNat >>> 16 % 256 = _; rw [Nat.shiftRight_eq_div_pow]
theorem byte1 (n : UInt32) : (n >>> 8).toUInt8.toNat = n.toNat / 256 % 256 := by
  rw [UInt32.toNat_toUInt8, UInt32.toNat_shiftRight]; show n.toNat >>> 8 % 256 = _; rw [Nat.shiftRight_eq_div_pow]
theorem byte0 (n : UInt32) : n.toUInt8.toNat = n.toNat % 256 := by rw [UInt32.toNat_toUInt8]
theorem setBE_len (l : List UInt8) (n : UInt32) : (setBE l n).length = l.length := by simp [setBE]
theorem setBE_nth (l : List UInt8) (hl : l.length = 16) (n : UInt32) (i : Nat) : nth (setBE l n) i = if i = 15 then n.toUInt8 else if i = 14 then (n >>> 8).toUInt8 else if i = 13 then (n >>> 16).toUInt8 else if i = 12 then (n >>> 24).toUInt8 else nth l i := by
  unfold setBE
  rw [nth_set _ _ _ _ (by simp; omega), nth_set _ _ _ _ (by simp; omega), nth_set _ _ _ _ (by simp; omega), nth_set _ _ _ _ (by omega)]
theorem u8_ext {a b : UInt8} (h : a.toNat = b.toNat) : a = b := UInt8.toNat_inj.1 h
theorem inc_setBE (l : List UInt8) (hl : l.length = 16) : inc l = setBE l (be l + 1) := by
  have hn := be_toNat l
  have h0 := (nth l 12).toNat_lt
  have h1 := (nth l 13).toNat_lt
  have h2 := (nth l 14).toNat_lt
  have h3 := (nth l 15).toNat_lt
  have hN : (be l + 1).toNat = ((be l).toNat + 1) % 4294967296 := by rw [UInt32.toNat_add]; rfl
  have z : ∀ x : UInt8, x + 1 = 0 ↔ x.toNat = 255 := fun x => by
    have hx := x.toNat_lt
    rw [← UInt8.toNat_inj, UInt8.toNat_add]
    show (x.toNat + 1) % 256 = 0 ↔ _
    omega
  have p : ∀ x : UInt8, x.toNat ≠ 255 → (x + 1).toNat = x.toNat + 1 := fun x h => by
    have hx := x.toNat_lt
    rw [UInt8.toNat_add]
    show (x.toNat + 1) % 256 = _
    omega
  have b0 := byte0 (be l + 1)
  have b1 := byte1 (be l + 1)
  have b2 := byte2 (be l + 1)
  have b3 := byte3 (be l + 1)
  have key : ∀ (m : List UInt8), m.length = 16 → (∀ i, i ≠ 12 → i ≠ 13 → i ≠ 14 → i ≠ 15 → nth m i = nth l i) → (nth m 12).toNat = (be l + 1).toNat / 16777216 % 256 → (nth m 13).toNat = (be l + 1).toNat / 65536 % 256 →
      (nth m 14).toNat = (be l + 1).toNat / 256 % 256 → (nth m 15).toNat = (be l + 1).toNat % 256 → m = setBE l (be l + 1) := by
    intro m hm ho e3 e2 e1 e0
    apply nth_ext
    · rw [setBE_len, hm, hl]
    intro i _
    rw [setBE_nth l hl]
    by_cases i15 : i = 15
    · subst i15; rw [if_pos rfl]; exact u8_ext (e0.trans b0.symm)
    rw [if_neg i15]
    by_cases i14 : i = 14
    · subst i14; rw [if_pos rfl]; exact u8_ext (e1.trans b1.symm)
    rw [if_neg i14]
    by_cases i13 : i = 13
    · subst i13; rw [if_pos rfl]; exact u8_ext (e2.trans b2.symm)
    rw [if_neg i13]
    by_cases i12 : i = 12
    · subst i12; rw [if_pos rfl]; exact u8_ext (e3.trans b3.symm)
    rw [if_neg i12]
    exact ho i i12 i13 i14 i15
  have s1 : ∀ x, (l.set 15 x).length = 16 := fun x => by rw [List.length_set, hl]
  have s2 : ∀ x y, ((l.set 15 x).set 14 y).length = 16 := fun x y => by rw [List.length_set, s1]
  have s3 : ∀ x y u, (((l.set 15 x).set 14 y).set 13 u).length = 16 := fun x y u => by rw [List.length_set, s2]
  have g1 : ∀ x i, nth (l.set 15 x) i = if i = 15 then x else nth l i := fun x i => nth_set _ _ _ _ (by omega)
  have g2 : ∀ x y i, nth ((l.set 15 x).set 14 y) i = if i = 14 then y else if i = 15 then x else nth l i := fun x y i => by rw [nth_set _ _ _ _ (by rw [s1]; omega), g1]
  have g3 : ∀ x y u i, nth (((l.set 15 x).set 14 y).set 13 u) i = if i = 13 then u else if i = 14 then y else if i = 15 then x else nth l i := fun x y u i => by rw [nth_set _ _ _ _ (by rw [s2]; omega), g2]
  have g4 : ∀ x y u v i, nth ((((l.set 15 x).set 14 y).set 13 u).set 12 v) i = if i = 12 then v else if i = 13 then u else if i = 14 then y else if i = 15 then x else nth l i := fun x y u v i => by rw [nth_set _ _ _ _ (by rw [s3]; omega), g3]
  rw [inc_eq]
  by_cases c3 : nth l 15 + 1 = 0
  · rw [incAt_on _ _ _ c3, c3]
    have d3 := (z _).1 c3
    have k14 : nth (l.set 15 0) (15 - 1) = nth l 14 := by rw [g1, if_neg (by omega)]
    by_cases c2 : nth l 14 + 1 = 0
    · rw [incAt_on _ _ _ (by rw [k14]; exact c2), k14, c2]
      have d2 := (z _).1 c2
      have k13 : nth ((l.set 15 0).set (15 - 1) 0) (15 - 1 - 1) = nth l 13 := by rw [g2, if_neg (by omega), if_neg (by omega)]
      by_cases c1 : nth l 13 + 1 = 0
      · rw [incAt_on _ _ _ (by rw [k13]; exact c1), k13, c1]
        have d1 := (z _).1 c1
        have k12 : nth (((l.set 15 0).set (15 - 1) 0).set (15 - 1 - 1) 0) (15 - 1 - 1 - 1) = nth l 12 := by rw [g3, if_neg (by omega), if_neg (by omega), if_neg (by omega)]
        have e : incAt 1 (15 - 1 - 1 - 1) (((l.set 15 0).set (15 - 1) 0).set (15 - 1 - 1) 0) = (((l.set 15 0).set 14 0).set 13 0).set 12 (nth l 12 + 1) := by
          rw [incAt, k12]; split <;> rfl
        rw [e]
        have v : (nth l 12 + 1).toNat = ((nth l 12).toNat + 1) % 256 := by rw [UInt8.toNat_add]; rfl
        refine key _ (by rw [List.length_set, s3]) (fun i a b c d => by rw [g4, if_neg a, if_neg b, if_neg c, if_neg d]) ?_ ?_ ?_ ?_
        · rw [g4, if_pos rfl, v]; omega
        · rw [g4, if_neg (by omega), if_pos rfl]; show 0 = _; omega
        · rw [g4, if_neg (by omega), if_neg (by omega), if_pos rfl]; show 0 = _; omega
        · rw [g4, if_neg (by omega), if_neg (by omega), if_neg (by omega), if_pos rfl]; show 0 = _; omega
      · have n1 : (nth l 13).toNat ≠ 255 := fun h => c1 ((z _).2 h)
        rw [incAt_off _ _ _ (by rw [k13]; exact c1), k13]
        have v := p _ n1
        refine key _ (s3 _ _ _) (fun i a b c d => (g3 _ _ _ i).trans (by rw [if_neg b, if_neg c, if_neg d])) ?_ ?_ ?_ ?_
        · rw [show (15 - 1 - 1) = 13 from rfl, show (15 - 1) = 14 from rfl, g3, if_neg (by omega), if_neg (by omega), if_neg (by omega)]; omega
        · rw [show (15 - 1 - 1) = 13 from rfl, show (15 - 1) = 14 from rfl, g3, if_pos rfl, v]; omega
        · rw [show (15 - 1 - 1) = 13 from rfl, show (15 - 1) = 14 from rfl, g3, if_neg (by omega), if_pos rfl]; show 0 = _; omega
        · rw [show (15 - 1 - 1) = 13 from rfl, show (15 - 1) = 14 from rfl, g3, if_neg (by omega), if_neg (by omega), if_pos rfl]; show 0 = _; omega
    · have n2 : (nth l 14).toNat ≠ 255 := fun h => c2 ((z _).2 h)
      rw [incAt_off _ _ _ (by rw [k14]; exact c2), k14]
      have v := p _ n2
      refine key _ (s2 _ _) (fun i a b c d => (g2 _ _ i).trans (by rw [if_neg c, if_neg d])) ?_ ?_ ?_ ?_
      · rw [show (15 - 1) = 14 from rfl, g2, if_neg (by omega), if_neg (by omega)]; omega
      · rw [show (15 - 1) = 14 from rfl, g2, if_neg (by omega), if_neg (by omega)]; omega
      · rw [show (15 - 1) = 14 from rfl, g2, if_pos rfl, v]; omega
      · rw [show (15 - 1) = 14 from rfl, g2, if_neg (by omega), if_pos rfl]; show 0 = _; omega
  · have n3 : (nth l 15).toNat ≠ 255 := fun h => c3 ((z _).2 h)
    rw [incAt_off _ _ _ c3]
    have v := p _ n3
    refine key _ (s1 _) (fun i a b c d => by rw [g1, if_neg d]) ?_ ?_ ?_ ?_
    · rw [g1, if_neg (by omega)]; omega
    · rw [g1, if_neg (by omega)]; omega
    · rw [g1, if_neg (by omega)]; omega
    · rw [g1, if_pos rfl, v]; omega
theorem be_setBE (l : List UInt8) (hl : l.length = 16) (n : UInt32) : be (setBE l n) = n := by
  apply UInt32.toNat_inj.1
  have hn := n.toNat_lt
  have e15 : nth (setBE l n) 15 = n.toUInt8 := by rw [setBE_nth l hl, if_pos rfl]
  have e14 : nth (setBE l n) 14 = (n >>> 8).toUInt8 := by rw [setBE_nth l hl, if_neg (by omega), if_pos rfl]
  have e13 : nth (setBE l n) 13 = (n >>> 16).toUInt8 := by rw [setBE_nth l hl, if_neg (by omega), if_neg (by omega), if_pos rfl]
  have e12 : nth (setBE l n) 12 = (n >>> 24).toUInt8 := by rw [setBE_nth l hl, if_neg (by omega), if_neg (by omega), if_neg (by omega), if_pos rfl]
  rw [be_toNat, e12, e13, e14, e15, byte3, byte2, byte1, byte0]; omega
theorem setBE_setBE (l : List UInt8) (hl : l.length = 16) (n m : UInt32) : setBE (setBE l n) m = setBE l m := by
  apply nth_ext
  · rw [setBE_len, setBE_len, setBE_len]
  intro i _
  rw [setBE_nth _ (by rw [setBE_len, hl]), setBE_nth _ hl, setBE_nth _ hl]
  by_cases a : i = 15
  · rw [if_pos a, if_pos a]
  by_cases b : i = 14
  · rw [if_neg a, if_pos b, if_neg a, if_pos b]
  by_cases c : i = 13
  · rw [if_neg a, if_neg b, if_pos c, if_neg a, if_neg b, if_pos c]
  by_cases d : i = 12
  · rw [if_neg a, if_neg b, if_neg c, if_pos d, if_neg a, if_neg b, if_neg c, if_pos d]
  simp only [if_neg a, if_neg b, if_neg c, if_neg d]
theorem setBE_be (l : List UInt8) (hl : l.length = 16) : setBE l (be l) = l := by
  have hn := be_toNat l
  have h0 := (nth l 12).toNat_lt
  have h1 := (nth l 13).toNat_lt
  have h2 := (nth l 14).toNat_lt
  have h3 := (nth l 15).toNat_lt
  apply nth_ext _ _ (setBE_len _ _)
  intro i _
  rw [setBE_nth _ hl]
  by_cases a : i = 15
  · subst a; rw [if_pos rfl]; apply u8_ext; rw [byte0]; omega
  by_cases b : i = 14
  · subst b; rw [if_neg a, if_pos rfl]; apply u8_ext; rw [byte1]; omega
  by_cases c : i = 13
  · subst c; rw [if_neg a, if_neg b, if_pos rfl]; apply u8_ext; rw [byte2]; omega
  by_cases d : i = 12
  · subst d; rw [if_neg a, if_neg b, if_neg c, if_pos rfl]; apply u8_ext; rw [byte3]; omega
  rw [if_neg a, if_neg b, if_neg c, if_neg d]
theorem incN_setBE (l : List UInt8) (hl : l.length = 16) (m : Nat) : incN m l = setBE l (be l + UInt32.ofNat m) := by
  induction m with
  | zero => rw [incN]; show l = setBE l (be l + 0); rw [UInt32.add_zero, setBE_be l hl]
  | succ m ih =>
    rw [incN, ih, inc_setBE _ (by rw [setBE_len, hl]), be_setBE _ hl, setBE_setBE _ hl, UInt32.add_assoc]
    congr 2
    rw [UInt32.ofNat_add]; rfl
end Aes
end Go.Proofs.YthigbggacgiamaaDoor

namespace Go.Proofs.YthigbggacgiamaaDoor
open Go.RowKit
section
variable {P : Program} {ops : Array Oper} {Q : Exit → Act → World → Prop} {md : Region.Mode} {S : World → Prop} {i : Nat} {o : Oper} {fuel : Nat} {listed : Array Bool} {a : Act} {w : World}
theorem wanted_plain (hgd : o.guard = none) : Region.wanted o (yielded ops a.tmps) = true := by simp [Region.wanted, hgd]
/-- An operation that in every world that meets S gives v. -/
theorem held_take (i : Nat) (hi : ops[i]? = some o) (hs : Region.noSelect ops = true) (hf : Region.free md ops listed i = true) (hr : (Region.ready md ops listed).contains i = true) (hgd : o.guard = none) (v : Value)
    (hQ : ∀ c a w, Q (.panic c) (a.put o.dst v) w → Q (.panic c) a w) (hrun : ∀ w, S w → (execOp a.eval o).run P w = .ok (.value v) w) (hS : S w)
    (h : wpAnyH P md ops Q S fuel (listed.setIfInBounds i true) (a.put o.dst v) w) : wpAnyH P md ops Q S (fuel + 1) listed a w :=
  wpAnyH_take hi hs hf hr hQ (.inl ⟨wanted_plain hgd, hrun⟩) hS h
theorem run_move {ρ : Operand → Value} {x : Operand} (ho : o.op = .move x) {v : Value} (hx : ρ x = v) (w : World) : (execOp ρ o).run P w = .ok (.value v) w := by
  unfold execOp
  simp only [ho, hx]; rfl
theorem run_assign {ρ : Operand → Value} {x : Operand} (ho : o.op = .assign x) {v : Value} (hx : ρ x = v) (w : World) : (execOp ρ o).run P w = .ok (.value v) w := by
  unfold execOp
  simp only [ho, hx]; rfl
theorem run_load_arr {ρ : Operand → Value} {ty : TypeId} {x : Operand} (ho : o.op = .load ty x) {ad : Addr} (hx : ρ x = .pointer (some ad)) {n : Nat} (ht : AggT P ty n) (l : List UInt8) (hl : l.length = n) (hc : Cells w ad (l.map U8)) :
    (execOp ρ o).run P w = .ok (.value (.agg (arr l))) w :=
  run_execOp_load ho hx (run_loadVar_cells ht ad _ (by rw [List.length_map, hl]) hc.is)
/-- The one operation that may come up is a call of a Go function. -/
theorem held_call (i : Nat) (hr : Region.ready md ops listed = [i]) (hi : ops[i]? = some o) (hgd : o.guard = none) (f : FuncId) (xs : Array Operand) (ats : Array TypeId) (ho : o.op = .call { callee := .value (.func f), args := xs, argTypes := ats })
    (args : Array Value) (hargs : xs.map a.eval = args) (hfn : ∀ w, (callFunc f args).run P w = .ok (.enter f args) w)
    (h : Calls P f args w fun e w' => ∃ v, e = .returned v ∧ S w' ∧ (S w' → wpAnyH P md ops Q S fuel (listed.setIfInBounds i true) (a.put o.dst v) w')) : wpAnyH P md ops Q S (fuel + 1) listed a w := by
  refine wpAnyH_ready hr (by simp) (AllReadyH.cons hi (fun K hK => ?_) AllReadyH.nil)
  rw [if_pos (wanted_plain hgd)]
  have hx : (execOp a.eval o).run P w = .ok (.enter f args) w := by
    obtain ⟨dst, op, type, pos, after, guard⟩ := o
    subst ho
    show (execOp a.eval _).run P w = _
    rw [execOp_call_go]
    have e : #[] ++ xs.map a.eval ++ #[] = args := by rw [hargs]; simp
    rw [e]; exact hfn w
  unfold Oper.wp
  rw [hx]
  refine h.mono ?_
  rintro e w' ⟨v, rfl, hS, hW⟩
  exact hK.out _ _ hS hW
theorem run_eql_arr16 {ρ : Operand → Value} {x y : Operand} {rt : TypeId} (ho : o.op = .binOp .eql 87 x y rt) (l m : List UInt8) (hx : ρ x = .agg (arr l)) (hy : ρ y = .agg (arr m)) (hl : l.length = 16) (hm : m.length = 16) :
    (execOp ρ o).run Tryd.prog w = .ok (.value (.bool (decide (l = m)))) w := by
  unfold execOp
  simp only [ho, hx, hy, Sem.run_bind, run_eqGuard_agg _ _ _ _ _ _ _ guard16, run_eql_struct, eq16 l m hl hm, Result.andThen_ok]
  rfl
theorem run_eql_bool {ρ : Operand → Value} {x y : Operand} {t rt : TypeId} (ho : o.op = .binOp .eql t x y rt) (b c : Bool) (hx : ρ x = .bool b) (hy : ρ y = .bool c) (ht : P.underlying t = some .bool) :
    (execOp ρ o).run P w = .ok (.value (.bool (b == c))) w := by
  unfold execOp
  simp only [ho, hx, hy]
  simp [go_sem, ht]
end
end Go.Proofs.YthigbggacgiamaaDoor

namespace Go.Proofs.YthigbggacgiamaaDoor
open Go.RowKit
section
variable {P : Program} {ops : Array Oper} {Q : Exit → Act → World → Prop} {md : Region.Mode} {S : World → Prop} {i : Nat} {o : Oper} {fuel : Nat} {listed : Array Bool} {a : Act} {w : World}
/-- As held_take, for an operation whose guard lets it run. -/
theorem held_takeG (i : Nat) (hi : ops[i]? = some o) (hs : Region.noSelect ops = true) (hf : Region.free md ops listed i = true) (hr : (Region.ready md ops listed).contains i = true) (hw : Region.wanted o (yielded ops a.tmps) = true) (v : Value)
    (hQ : ∀ c a w, Q (.panic c) (a.put o.dst v) w → Q (.panic c) a w) (hrun : ∀ w, S w → (execOp a.eval o).run P w = .ok (.value v) w) (hS : S w)
    (h : wpAnyH P md ops Q S fuel (listed.setIfInBounds i true) (a.put o.dst v) w) : wpAnyH P md ops Q S (fuel + 1) listed a w :=
  wpAnyH_take hi hs hf hr hQ (.inl ⟨hw, hrun⟩) hS h
/-- As held_call, guarded. -/
theorem held_callG (i : Nat) (hr : Region.ready md ops listed = [i]) (hi : ops[i]? = some o) (hw : Region.wanted o (yielded ops a.tmps) = true) (f : FuncId) (xs : Array Operand) (ats : Array TypeId) (ho : o.op = .call { callee := .value (.func f), args := xs, argTypes := ats })
    (args : Array Value) (hargs : xs.map a.eval = args) (hfn : ∀ w, (callFunc f args).run P w = .ok (.enter f args) w)
    (h : Calls P f args w fun e w' => ∃ v, e = .returned v ∧ S w' ∧ (S w' → wpAnyH P md ops Q S fuel (listed.setIfInBounds i true) (a.put o.dst v) w')) : wpAnyH P md ops Q S (fuel + 1) listed a w := by
  refine wpAnyH_ready hr (by simp) (AllReadyH.cons hi (fun K hK => ?_) AllReadyH.nil)
  rw [if_pos hw]
  have hx : (execOp a.eval o).run P w = .ok (.enter f args) w := by
    obtain ⟨dst, op, type, pos, after, guard⟩ := o
    subst ho
    show (execOp a.eval _).run P w = _
    rw [execOp_call_go]
    have e : #[] ++ xs.map a.eval ++ #[] = args := by rw [hargs]; simp
    rw [e]; exact hfn w
  unfold Oper.wp
  rw [hx]
  refine h.mono ?_
  rintro e w' ⟨v, rfl, hS, hW⟩
  exact hK.out _ _ hS hW
/-- The one operation that may come up gives a value and another world. -/
theorem held_do (i : Nat) (hr : Region.ready md ops listed = [i]) (hi : ops[i]? = some o) (hw : Region.wanted o (yielded ops a.tmps) = true) (v : Value) (w2 : World) (hrun : (execOp a.eval o).run P w = .ok (.value v) w2) (hS : S w2)
    (h : S w2 → wpAnyH P md ops Q S fuel (listed.setIfInBounds i true) (a.put o.dst v) w2) : wpAnyH P md ops Q S (fuel + 1) listed a w := by
  refine wpAnyH_ready hr (by simp) (AllReadyH.cons hi (fun K hK => ?_) AllReadyH.nil)
  rw [if_pos hw]
  unfold Oper.wp
  rw [hrun]
  exact hK.out _ _ hS h
theorem run_pick {ρ : Operand → Value} {x y z : Operand} (ho : o.op = .pick x y z) {b : Bool} (hx : ρ x = .bool b) {v : Value} (hv : (if b then ρ y else ρ z) = v) (w : World) : (execOp ρ o).run P w = .ok (.value v) w := by
  subst hv
  unfold execOp
  simp only [ho, hx]
  cases b <;> simp [go_sem]
theorem run_toStr {ρ : Operand → Value} {src dst e : TypeId} {x : Operand} (ho : o.op = .convert src dst x) (hs : P.underlying src = some (.slice e)) (he : P.underlying e = some (.int .u8)) (hd : P.underlying dst = some .string) (B : Nat) (A : Option Addr) (n c : Nat) (l : List UInt8) (hx : ρ x = .slice A n c) (hr : ReadsB w B A n l) :
    (execOp ρ o).run P w = .ok (.value (.string (str l))) w := by
  unfold execOp
  simp only [ho, hx, Sem.run_bind, run_toString hs he hd B A n c l hr, Result.andThen_ok]
  rfl
theorem run_eqStr {ρ : Operand → Value} {x y : Operand} {t rt : TypeId} (ho : o.op = .binOp .eql t x y rt) (l m : List UInt8) (hx : ρ x = .string (str l)) (hy : ρ y = .string (str m)) (w : World) :
    (execOp ρ o).run P w = .ok (.value (.bool (decide (l = m)))) w := by
  unfold execOp
  simp only [ho, hx, hy, Sem.run_bind, run_str_eql, Result.andThen_ok]
  rfl
end
theorem OwnB.empty {w : World} {B : Nat} (hB : B ≤ w.heap.size) : OwnB (w.alloc (.cells #[] 5)) B (.slice (some ⟨w.heap.size, 0, none⟩) 0 0) [] :=
  ⟨rfl, .inr ⟨w.heap.size, 0, #[], rfl, hB, heap_alloc_new _ _, Nat.le_refl _, by unfold maxLen; omega, rfl, rfl⟩⟩
namespace Aes
/-- Twice the same stream takes it back. -/
theorem stream_twice (rs : List (List UInt8)) (ctr b : List UInt8) : stream rs ctr (stream rs ctr b) = b := by
  apply nth_ext
  · rw [stream_len, stream_len]
  · intro i hi
    rw [stream_len, stream_len] at hi
    rw [stream_get _ _ _ _ (by rw [stream_len]; exact hi), stream_get _ _ _ _ hi, UInt8.xor_assoc, UInt8.xor_self, UInt8.xor_zero]
end Aes
end Go.Proofs.YthigbggacgiamaaDoor

namespace Go.Proofs.YthigbggacgiamaaDoor
open Go.RowKit
section
variable {P : Program} {ops : Array Oper} {Q : Exit → Act → World → Prop} {md : Region.Mode} {S : Bool → World → Prop} {s : Nat}
/-- The run of an operation gives v, and S holds behind it. -/
def GivesR (P : Program) (S : World → Prop) (v : Value) : Result Next → Prop
  | .ok (.value u) w => u = v ∧ S w
  | .ok .skip w => v = undef ∧ S w
  | .ok (.enter f args) w => Calls P f args w fun e w' => e = .returned v ∧ S w'
  | _ => False
/-- In state a, in every world that meets S, operation number i, o, gives v, and S holds behind it; or its guard keeps it from running. -/
def Gives (P : Program) (ops : Array Oper) (S : Bool → World → Prop) (s i : Nat) (o : Oper) (v : Value) (a : Act) : Prop :=
  (Region.wanted o (yielded ops a.tmps) = true ∧ ∀ f w, S f w → GivesR P (S (f || i == s)) v ((execOp a.eval o).run P w)) ∨ (Region.wanted o (yielded ops a.tmps) = false ∧ v = undef ∧ i ≠ s)
def flag (s : Nat) (listed : Array Bool) : Bool := listed.getD s false
theorem flag_set (s j : Nat) (listed : Array Bool) (h : listed.getD j true = false) : flag s (listed.setIfInBounds j true) = (flag s listed || j == s) := by
  have hj : j < listed.size := by
    rcases Nat.lt_or_ge j listed.size with h' | h'
    · exact h'
    · simp [Array.getElem?_eq_none h'] at h
  unfold flag
  by_cases e : j = s
  · subst e; simp [hj]
  · rw [getD_set_ne false e]; simp [e]
theorem GivesR.upon {o : Oper} {a : Act} {v : Value} {K : Act → World → Prop} {r : Result Next} {S : World → Prop} (h : GivesR P S v r) (hK : ∀ w, S w → K (a.put o.dst v) w) : o.upon P a K Q r := by
  cases r with
  | ok n w =>
    cases n <;> simp only [GivesR, Oper.upon] at h ⊢
    case value u => obtain ⟨rfl, hS⟩ := h; exact hK _ hS
    case skip => obtain ⟨rfl, hS⟩ := h; exact hK _ hS
    case enter f args => exact Calls.mono h fun e w' ⟨he, hS⟩ => by subst he; exact hK _ hS
  | halt x w => cases h
theorem Gives.wpOp {i : Nat} {o : Oper} {v : Value} {a : Act} (hi : ops[i]? = some o) (hy : Gives P ops S s i o v a) {K : Act → World → Prop} {f : Bool} {w : World} (hS : S f w) (hK : ∀ w, S (f || i == s) w → K (a.put o.dst v) w) : wpOp P ops Q i K a w := by
  unfold Go.wpOp
  simp only [hi]
  rcases hy with ⟨hw, hv⟩ | ⟨hw, rfl, hne⟩
  · rw [if_pos hw]; exact .inl ((hv f w hS).upon hK)
  · rw [if_neg (by rw [hw]; exact Bool.false_ne_true)]; exact hK w (by rw [beq_eq_false_iff_ne.2 hne, Bool.or_false]; exact hS)
theorem Gives.same {i : Nat} {o : Oper} {v : Value} {a a' : Act} (hy : Gives P ops S s i o v a) (he : execOp a'.eval o = execOp a.eval o) (hw : Region.wanted o (yielded ops a'.tmps) = Region.wanted o (yielded ops a.tmps)) : Gives P ops S s i o v a' := by
  unfold Gives at *
  rw [he, hw]; exact hy
theorem wpOp_apart {i j : Nat} {oi oj : Oper} {v : Value} (hj : ops[j]? = some oj) (hap : oi.apart ops oj = true) (hsi : ∀ cs b, oi.op ≠ .select cs b) (hsj : ∀ cs b, oj.op ≠ .select cs b)
    (hQ : ∀ c a w, Q (.panic c) (a.put oi.dst v) w → Q (.panic c) a w) {K : Act → World → Prop} {a : Act} {w : World} (hy : Gives P ops S s i oi v a) (h : wpOp P ops Q j K (a.put oi.dst v) w) :
    wpOp P ops Q j (fun a' w' => Gives P ops S s i oi v a' ∧ K (a'.put oi.dst v) w') a w := by
  obtain ⟨h1, h2, h3⟩ := Oper.apart_spec hap
  have stay : ∀ (b : Act), Gives P ops S s i oi v b → ∀ u, Gives P ops S s i oi v (b.put oj.dst u) := fun b hb u => hb.same (execOp_put oi hsi b oj.dst u h3) (wanted_put oi b oj.dst u h3)
  unfold wpOp at h ⊢
  simp only [hj] at h ⊢
  rw [wanted_put oj a oi.dst v h1] at h
  by_cases hw : Region.wanted oj (yielded ops a.tmps) = true
  · rw [if_pos hw] at h ⊢
    rcases h with h | ⟨hasks, hlets⟩
    · left
      unfold Oper.wp at h ⊢
      rw [execOp_put oj hsj a oi.dst v h1] at h
      revert h
      generalize (execOp a.eval oj).run P w = r
      intro h
      cases r with
      | halt x w' =>
        cases x <;> simp only [Oper.upon] at h ⊢
        exact hQ _ _ _ h
      | ok n w' =>
        cases n <;> simp only [Oper.upon] at h ⊢
        case value u => exact ⟨stay a hy u, by rw [← Act.put_comm a v u h2]; exact h⟩
        case skip => exact ⟨stay a hy _, by rw [← Act.put_comm a v undef h2]; exact h⟩
        case defer d =>
          refine ⟨stay { a with defers := d :: a.defers } (hy.same rfl rfl) undef, ?_⟩
          rw [← Act.put_comm _ v undef h2, ← Act.put_defers]; exact h
        case enter f args =>
          refine Calls.mono h fun e w'' he => ?_
          cases e with
          | returned u => exact ⟨stay a hy u, by rw [← Act.put_comm a v u h2]; exact he⟩
          | panicked c => exact hQ _ _ _ he
          | outgrown => exact he
        case row row args => exact Rows.mono h fun u w'' he => ⟨stay a hy u, by rw [← Act.put_comm a v u h2]; exact he⟩
    · right
      refine ⟨?_, hlets⟩
      unfold Oper.asks at *
      rw [execOp_put oj hsj a oi.dst v h1] at hasks
      exact hasks
  · rw [if_neg hw] at h ⊢
    exact ⟨stay a hy _, by rw [← Act.put_comm a v undef h2]; exact h⟩
theorem flag_ne (s j : Nat) (listed : Array Bool) (h : j ≠ s) : flag s (listed.setIfInBounds j true) = flag s listed := getD_set_ne false h
/-- Whatever order is drawn, in whatever world that meets S: S holds behind each operation, and Q at the end. -/
def wpAnyU (P : Program) (md : Region.Mode) (ops : Array Oper) (Q : Exit → Act → World → Prop) (S : Bool → World → Prop) (s : Nat) : Nat → Array Bool → Act → Prop
  | 0, listed, a => Region.ready md ops listed = [] ∧ ∀ w, S (flag s listed) w → Q .normal a w
  | n + 1, listed, a => (Region.ready md ops listed = [] → ∀ w, S (flag s listed) w → Q .normal a w) ∧
    ∀ i ∈ Region.ready md ops listed, ∀ w, S (flag s listed) w → wpOp P ops Q i (fun a' w' => S (flag s (listed.setIfInBounds i true)) w' ∧ wpAnyU P md ops Q S s n (listed.setIfInBounds i true) a') a w
theorem wpAny_of_u : ∀ (n : Nat) (listed : Array Bool) (a : Act), wpAnyU P md ops Q S s n listed a → ∀ w, S (flag s listed) w → wpAny P md ops Q n listed a w
  | 0, _, _, h, w, hS => ⟨h.1, h.2 w hS⟩
  | n + 1, listed, a, h, w, hS => ⟨fun h0 => h.1 h0 w hS, fun i hi => wpOp_mono (fun a' w' h' => wpAny_of_u n _ a' h'.2 w' h'.1) (h.2 i hi w hS)⟩
theorem wpAnyU_first {i : Nat} {oi : Oper} {v : Value} (his : i ≠ s) (hi : ops[i]? = some oi) (hsel : ∀ (j : Nat) (o : Oper) cs b, ops[j]? = some o → o.op ≠ .select cs b) (hQ : ∀ c a w, Q (.panic c) (a.put oi.dst v) w → Q (.panic c) a w) :
    ∀ (n : Nat) (listed : Array Bool) (a : Act), (∀ j oj, ops[j]? = some oj → j ≠ i → listed.getD j true = false → (∀ e ∈ oj.after, Region.binds md e = true → e.on ≠ i) → oi.apart ops oj = true) →
      i ∈ Region.ready md ops listed → Gives P ops S s i oi v a → wpAnyU P md ops Q S s n (listed.setIfInBounds i true) (a.put oi.dst v) → wpAnyU P md ops Q S s (n + 1) listed a := by
  intro n
  induction n with
  | zero =>
    intro listed a _ hr hy H
    refine ⟨fun h => (by rw [h] at hr; cases hr), fun j hj w hS => ?_⟩
    by_cases hji : j = i
    · subst hji; exact hy.wpOp hi hS fun w' hS' => ⟨by rw [flag_set _ _ _ (mem_ready.1 hr).1]; exact hS', H⟩
    · have h0 := ready_mono hj hji
      rw [H.1] at h0; cases h0
  | succ n ih =>
    intro listed a hfree hr hy H
    refine ⟨fun h => (by rw [h] at hr; cases hr), fun j hj w hS => ?_⟩
    by_cases hji : j = i
    · subst hji; exact hy.wpOp hi hS fun w' hS' => ⟨by rw [flag_set _ _ _ (mem_ready.1 hr).1]; exact hS', H⟩
    · obtain ⟨hjun, oj, hoj, hall⟩ := mem_ready.1 hj
      have hwait : ∀ e ∈ oj.after, Region.binds md e = true → e.on ≠ i := by
        intro e he hb heq
        have h1 := hall e he hb
        have h0 := (mem_ready.1 hr).1
        rw [heq] at h1
        rcases Nat.lt_or_ge i listed.size with h' | h'
        · simp [h'] at h0 h1; rw [h0] at h1; cases h1
        · simp [Array.getElem?_eq_none h'] at h1
      have h2 := wpOp_apart hoj (hfree j oj hoj hji hjun hwait) (fun cs b => hsel i oi cs b hi) (fun cs b => hsel j oj cs b hoj) hQ hy (H.2 j (ready_mono hj hji) w (by rw [flag_ne _ _ _ his]; exact hS))
      have hfree2 : ∀ k ok, ops[k]? = some ok → k ≠ i → (listed.setIfInBounds j true).getD k true = false → (∀ e ∈ ok.after, Region.binds md e = true → e.on ≠ i) → oi.apart ops ok = true := by
        intro k ok hk hki hun hno
        refine hfree k ok hk hki ?_ hno
        by_cases hjk : j = k
        · subst hjk; exact hjun
        · rw [getD_set_ne true hjk] at hun; exact hun
      refine wpOp_mono (fun a' w' h3 => ⟨?_, ih (listed.setIfInBounds j true) a' hfree2 (ready_mono hr (Ne.symm hji)) h3.1 ?_⟩) h2
      · have h4 := h3.2.1
        rw [Array.setIfInBounds_comm _ _ (Ne.symm hji), flag_ne _ _ _ his] at h4
        exact h4
      · rw [Array.setIfInBounds_comm _ _ hji]
        exact h3.2.2
variable {i : Nat} {o : Oper} {fuel : Nat} {listed : Array Bool} {a : Act} {w : World}
/-- Number i, that gives v. -/
theorem u_take (i : Nat) (his : (i == s) = false) (hi : ops[i]? = some o) (hs : Region.noSelect ops = true) (hf : Region.free md ops listed i = true) (hr : (Region.ready md ops listed).contains i = true) (v : Value) (hQ : ∀ c a w, Q (.panic c) (a.put o.dst v) w → Q (.panic c) a w)
    (hy : Gives P ops S s i o v a) (h : wpAnyU P md ops Q S s fuel (listed.setIfInBounds i true) (a.put o.dst v)) : wpAnyU P md ops Q S s (fuel + 1) listed a :=
  wpAnyU_first (beq_eq_false_iff_ne.1 his) hi (Region.noSelect_spec hs) hQ fuel listed a (Region.free_spec hi hf) (by simpa using hr) hy h
/-- The one that writes, where it alone may come up. -/
theorem u_last (hi : ops[s]? = some o) (hr : Region.ready md ops listed = [s]) (v : Value) (hy : Gives P ops S s s o v a) (h : wpAnyU P md ops Q S s fuel (listed.setIfInBounds s true) (a.put o.dst v)) : wpAnyU P md ops Q S s (fuel + 1) listed a := by
  refine ⟨fun h0 => (by rw [hr] at h0; cases h0), fun j hj w hS => ?_⟩
  have hj' := hj
  rw [hr] at hj'
  obtain rfl : j = s := by simpa using hj'
  exact hy.wpOp hi hS fun w' hS' => ⟨by rw [flag_set _ _ _ (mem_ready.1 hj).1]; exact hS', h⟩
theorem u_done (hr : Region.ready md ops listed = []) (h : ∀ w, S (flag s listed) w → Q .normal a w) : ∀ n, wpAnyU P md ops Q S s n listed a
  | 0 => ⟨hr, h⟩
  | _ + 1 => ⟨fun _ => h, fun i hi => by rw [hr] at hi; cases hi⟩
/-- The beginning. -/
theorem u_start (s : Nat) {id : Nat} (hm : P.follows .mixedOrders = true) (hS : S false w.drew) (h : wpAnyU P .any ops Q S s ops.size (Array.replicate ops.size false) a) : (Code.region id ops true).wp P Q a w := by
  have hf : flag s (Array.replicate ops.size false) = false := by
    unfold flag
    rw [Array.getD_eq_getD_getElem?, Array.getElem?_replicate]
    split <;> rfl
  exact wp_region_any hm (wpAny_of_u _ _ _ h _ (by rw [hf]; exact hS))
theorem g_value {v : Value} (his : (i == s) = false) (hw : Region.wanted o (yielded ops a.tmps) = true) (h : ∀ f w, S f w → (execOp a.eval o).run P w = .ok (.value v) w) : Gives P ops S s i o v a :=
  .inl ⟨hw, fun f w hS => by rw [h f w hS]; exact ⟨rfl, by rw [his, Bool.or_false]; exact hS⟩⟩
theorem g_not (his : (i == s) = false) (hw : Region.wanted o (yielded ops a.tmps) = false) : Gives P ops S s i o undef a := .inr ⟨hw, rfl, beq_eq_false_iff_ne.1 his⟩
/-- The store. -/
theorem g_store (hw : Region.wanted o (yielded ops a.tmps) = true) (h : ∀ f w, S f w → ∃ w', (execOp a.eval o).run P w = .ok .skip w' ∧ S true w') : Gives P ops S s s o undef a :=
  .inl ⟨hw, fun f w hS => by
    obtain ⟨w', h1, h2⟩ := h f w hS
    rw [h1]; exact ⟨rfl, by rw [beq_self_eq_true, Bool.or_true]; exact h2⟩⟩
theorem g_call {v : Value} (his : (i == s) = false) (hw : Region.wanted o (yielded ops a.tmps) = true) (f : FuncId) (xs : Array Operand) (ats : Array TypeId) (ho : o.op = .call { callee := .value (.func f), args := xs, argTypes := ats })
    (args : Array Value) (hargs : xs.map a.eval = args) (hfn : ∀ w, (callFunc f args).run P w = .ok (.enter f args) w) (h : ∀ b w, S b w → Calls P f args w fun e w' => e = .returned v ∧ S b w') : Gives P ops S s i o v a :=
  .inl ⟨hw, fun b w hS => by
    have hx : (execOp a.eval o).run P w = .ok (.enter f args) w := by
      obtain ⟨dst, op, type, pos, after, guard⟩ := o
      subst ho
      show (execOp a.eval _).run P w = _
      rw [execOp_call_go]
      have e : #[] ++ xs.map a.eval ++ #[] = args := by rw [hargs]; simp
      rw [e]; exact hfn w
    rw [hx]
    exact (h b w hS).mono fun e w' ⟨he, hS'⟩ => ⟨he, by rw [his, Bool.or_false]; exact hS'⟩⟩
theorem run_store_arr {ρ : Operand → Value} {ty : TypeId} {x y : Operand} (ho : o.op = .store ty x y) (g : Nat) (l : List UInt8) (hx : ρ x = .pointer (some ⟨g, 0, none⟩)) (hy : ρ y = .agg (arr l))
    (t : TypeId) (cs : Array Value) (hb : Blk w g t cs) (n : Nat) (hn : (P.info? ty).map (·.size) = some n) (hl : l.length = n) (hc : cs.size = n) : (execOp ρ o).run P w = .ok .skip (w.setRow g (arr l)) := by
  have h := run_storeVar_at (P := P) (ty := ty) hb 0 (l.map U8) (by rw [hn, List.length_map, hl]) (by rw [List.length_map]; omega) (by simp [Value.oneCell'])
  rw [splice_all cs _ (by rw [List.length_map]; omega)] at h
  have h' : (storeVar ty ⟨g, 0, none⟩ (.agg (arr l))).run P w = .ok () (w.setRow g (arr l)) := h
  unfold execOp
  simp only [ho, hx, hy, Instr.storeAt, Instr.sureAddr, Sem.run_bind, Sem.run_pure, Result.andThen_ok, h']
end
end Go.Proofs.YthigbggacgiamaaDoor

namespace Go.Proofs.YthigbggacgiamaaDoor
open Go.RowKit
section
variable {P : Program} {ops : Array Oper} {Q : Exit → Act → World → Prop} {md : Region.Mode} {γ : Type} {S : γ → World → Prop} {R : γ → γ → Prop}
/-- As Gives, for every word g that may follow g0. -/
def GivesV (P : Program) (ops : Array Oper) {γ : Type} (S : γ → World → Prop) (R : γ → γ → Prop) (g0 : γ) (o : Oper) (v : Value) (a : Act) : Prop :=
  (Region.wanted o (yielded ops a.tmps) = true ∧ ∀ g, R g0 g → ∀ w, S g w → GivesR P (S g) v ((execOp a.eval o).run P w)) ∨ (Region.wanted o (yielded ops a.tmps) = false ∧ v = undef)
theorem GivesV.wpOp {i : Nat} {o : Oper} {v : Value} {a : Act} {g0 : γ} (hi : ops[i]? = some o) (hy : GivesV P ops S R g0 o v a) {K : Act → World → Prop} {g : γ} {w : World} (hg : R g0 g) (hS : S g w) (hK : ∀ w, S g w → K (a.put o.dst v) w) : wpOp P ops Q i K a w := by
  unfold Go.wpOp
  simp only [hi]
  rcases hy with ⟨hw, hv⟩ | ⟨hw, rfl⟩
  · rw [if_pos hw]; exact .inl ((hv g hg w hS).upon hK)
  · rw [if_neg (by rw [hw]; exact Bool.false_ne_true)]; exact hK w hS
theorem GivesV.same {o : Oper} {v : Value} {a a' : Act} {g0 : γ} (hy : GivesV P ops S R g0 o v a) (he : execOp a'.eval o = execOp a.eval o) (hw : Region.wanted o (yielded ops a'.tmps) = Region.wanted o (yielded ops a.tmps)) : GivesV P ops S R g0 o v a' := by
  unfold GivesV at *
  rw [he, hw]; exact hy
theorem GivesV.after {o : Oper} {v : Value} {a : Act} {g0 g1 : γ} (tr : ∀ x y z, R x y → R y z → R x z) (hy : GivesV P ops S R g0 o v a) (h : R g0 g1) : GivesV P ops S R g1 o v a :=
  hy.imp (fun ⟨hw, hv⟩ => ⟨hw, fun g hg w hS => hv g (tr _ _ _ h hg) w hS⟩) id
theorem wpOp_apartV {g0 : γ} {j : Nat} {oi oj : Oper} {v : Value} (hj : ops[j]? = some oj) (hap : oi.apart ops oj = true) (hsi : ∀ cs b, oi.op ≠ .select cs b) (hsj : ∀ cs b, oj.op ≠ .select cs b)
    (hQ : ∀ c a w, Q (.panic c) (a.put oi.dst v) w → Q (.panic c) a w) {K : Act → World → Prop} {a : Act} {w : World} (hy : GivesV P ops S R g0 oi v a) (h : wpOp P ops Q j K (a.put oi.dst v) w) :
    wpOp P ops Q j (fun a' w' => GivesV P ops S R g0 oi v a' ∧ K (a'.put oi.dst v) w') a w := by
  obtain ⟨h1, h2, h3⟩ := Oper.apart_spec hap
  have stay : ∀ (b : Act), GivesV P ops S R g0 oi v b → ∀ u, GivesV P ops S R g0 oi v (b.put oj.dst u) := fun b hb u => hb.same (execOp_put oi hsi b oj.dst u h3) (wanted_put oi b oj.dst u h3)
  unfold wpOp at h ⊢
  simp only [hj] at h ⊢
  rw [wanted_put oj a oi.dst v h1] at h
  by_cases hw : Region.wanted oj (yielded ops a.tmps) = true
  · rw [if_pos hw] at h ⊢
    rcases h with h | ⟨hasks, hlets⟩
    · left
      unfold Oper.wp at h ⊢
      rw [execOp_put oj hsj a oi.dst v h1] at h
      revert h
      generalize (execOp a.eval oj).run P w = r
      intro h
      cases r with
      | halt x w' =>
        cases x <;> simp only [Oper.upon] at h ⊢
        exact hQ _ _ _ h
      | ok n w' =>
        cases n <;> simp only [Oper.upon] at h ⊢
        case value u => exact ⟨stay a hy u, by rw [← Act.put_comm a v u h2]; exact h⟩
        case skip => exact ⟨stay a hy _, by rw [← Act.put_comm a v undef h2]; exact h⟩
        case defer d =>
          refine ⟨stay { a with defers := d :: a.defers } (hy.same rfl rfl) undef, ?_⟩
          rw [← Act.put_comm _ v undef h2, ← Act.put_defers]; exact h
        case enter f args =>
          refine Calls.mono h fun e w'' he => ?_
          cases e with
          | returned u => exact ⟨stay a hy u, by rw [← Act.put_comm a v u h2]; exact he⟩
          | panicked c => exact hQ _ _ _ he
          | outgrown => exact he
        case row row args => exact Rows.mono h fun u w'' he => ⟨stay a hy u, by rw [← Act.put_comm a v u h2]; exact he⟩
    · right
      refine ⟨?_, hlets⟩
      unfold Oper.asks at *
      rw [execOp_put oj hsj a oi.dst v h1] at hasks
      exact hasks
  · rw [if_neg hw] at h ⊢
    exact ⟨stay a hy _, by rw [← Act.put_comm a v undef h2]; exact h⟩
/-- Whatever order is drawn, in whatever world that meets S g. -/
def wpAnyV (P : Program) (md : Region.Mode) (ops : Array Oper) (Q : Exit → Act → World → Prop) {γ : Type} (S : γ → World → Prop) (R : γ → γ → Prop) : Nat → Array Bool → Act → γ → Prop
  | 0, listed, a, g => Region.ready md ops listed = [] ∧ ∀ w, S g w → Q .normal a w
  | n + 1, listed, a, g => (Region.ready md ops listed = [] → ∀ w, S g w → Q .normal a w) ∧
    ∀ i ∈ Region.ready md ops listed, ∀ w, S g w → wpOp P ops Q i (fun a' w' => ∃ g', R g g' ∧ S g' w' ∧ wpAnyV P md ops Q S R n (listed.setIfInBounds i true) a' g') a w
theorem wpAny_of_v : ∀ (n : Nat) (listed : Array Bool) (a : Act) (g : γ), wpAnyV P md ops Q S R n listed a g → ∀ w, S g w → wpAny P md ops Q n listed a w
  | 0, _, _, _, h, w, hS => ⟨h.1, h.2 w hS⟩
  | n + 1, listed, a, g, h, w, hS => ⟨fun h0 => h.1 h0 w hS, fun i hi => wpOp_mono (fun a' w' ⟨g', _, h1, h2⟩ => wpAny_of_v n _ a' g' h2 w' h1) (h.2 i hi w hS)⟩
theorem wpAnyV_first (rf : ∀ g, R g g) (tr : ∀ x y z, R x y → R y z → R x z) {i : Nat} {oi : Oper} {v : Value} (hi : ops[i]? = some oi) (hsel : ∀ (j : Nat) (o : Oper) cs b, ops[j]? = some o → o.op ≠ .select cs b) (hQ : ∀ c a w, Q (.panic c) (a.put oi.dst v) w → Q (.panic c) a w) :
    ∀ (n : Nat) (listed : Array Bool) (a : Act) (g : γ), (∀ j oj, ops[j]? = some oj → j ≠ i → listed.getD j true = false → (∀ e ∈ oj.after, Region.binds md e = true → e.on ≠ i) → oi.apart ops oj = true) →
      i ∈ Region.ready md ops listed → GivesV P ops S R g oi v a → wpAnyV P md ops Q S R n (listed.setIfInBounds i true) (a.put oi.dst v) g → wpAnyV P md ops Q S R (n + 1) listed a g := by
  intro n
  induction n with
  | zero =>
    intro listed a g _ hr hy H
    refine ⟨fun h => (by rw [h] at hr; cases hr), fun j hj w hS => ?_⟩
    by_cases hji : j = i
    · subst hji; exact hy.wpOp hi (rf g) hS fun w' hS' => ⟨g, rf g, hS', H⟩
    · have h0 := ready_mono hj hji
      rw [H.1] at h0; cases h0
  | succ n ih =>
    intro listed a g hfree hr hy H
    refine ⟨fun h => (by rw [h] at hr; cases hr), fun j hj w hS => ?_⟩
    by_cases hji : j = i
    · subst hji; exact hy.wpOp hi (rf g) hS fun w' hS' => ⟨g, rf g, hS', H⟩
    · obtain ⟨hjun, oj, hoj, hall⟩ := mem_ready.1 hj
      have hwait : ∀ e ∈ oj.after, Region.binds md e = true → e.on ≠ i := by
        intro e he hb heq
        have h1 := hall e he hb
        have h0 := (mem_ready.1 hr).1
        rw [heq] at h1
        rcases Nat.lt_or_ge i listed.size with h' | h'
        · simp [h'] at h0 h1; rw [h0] at h1; cases h1
        · simp [Array.getElem?_eq_none h'] at h1
      have h2 := wpOp_apartV hoj (hfree j oj hoj hji hjun hwait) (fun cs b => hsel i oi cs b hi) (fun cs b => hsel j oj cs b hoj) hQ hy (H.2 j (ready_mono hj hji) w hS)
      have hfree2 : ∀ k ok, ops[k]? = some ok → k ≠ i → (listed.setIfInBounds j true).getD k true = false → (∀ e ∈ ok.after, Region.binds md e = true → e.on ≠ i) → oi.apart ops ok = true := by
        intro k ok hk hki hun hno
        refine hfree k ok hk hki ?_ hno
        by_cases hjk : j = k
        · subst hjk; exact hjun
        · rw [getD_set_ne true hjk] at hun; exact hun
      refine wpOp_mono (fun a' w' ⟨h3, g', h6, h4, h5⟩ => ⟨g', h6, h4, ih (listed.setIfInBounds j true) a' g' hfree2 (ready_mono hr (Ne.symm hji)) (h3.after tr h6) ?_⟩) h2
      rw [Array.setIfInBounds_comm _ _ hji]
      exact h5
variable {i : Nat} {o : Oper} {fuel : Nat} {listed : Array Bool} {a : Act} {w : World} {g : γ}
theorem v_take (rf : ∀ g, R g g) (tr : ∀ x y z, R x y → R y z → R x z) (i : Nat) (hi : ops[i]? = some o) (hs : Region.noSelect ops = true) (hf : Region.free md ops listed i = true) (hr : (Region.ready md ops listed).contains i = true) (v : Value) (hQ : ∀ c a w, Q (.panic c) (a.put o.dst v) w → Q (.panic c) a w)
    (hy : GivesV P ops S R g o v a) (h : wpAnyV P md ops Q S R fuel (listed.setIfInBounds i true) (a.put o.dst v) g) : wpAnyV P md ops Q S R (fuel + 1) listed a g :=
  wpAnyV_first rf tr hi (Region.noSelect_spec hs) hQ fuel listed a g (Region.free_spec hi hf) (by simpa using hr) hy h
/-- One step of an operation that lays or writes: what it gives, and the world behind it. -/
def StepV (P : Program) (md : Region.Mode) (ops : Array Oper) (Q : Exit → Act → World → Prop) (S : γ → World → Prop) (R : γ → γ → Prop) (fuel : Nat) (listed : Array Bool) (a : Act) (g : γ) (w : World) (i : Nat) : Prop :=
  ∃ o, ops[i]? = some o ∧ Region.wanted o (yielded ops a.tmps) = true ∧ ((∃ v w' g', (execOp a.eval o).run P w = .ok (.value v) w' ∧ R g g' ∧ S g' w' ∧ wpAnyV P md ops Q S R fuel (listed.setIfInBounds i true) (a.put o.dst v) g') ∨
    (∃ w' g', (execOp a.eval o).run P w = .ok .skip w' ∧ R g g' ∧ S g' w' ∧ wpAnyV P md ops Q S R fuel (listed.setIfInBounds i true) (a.put o.dst undef) g'))
theorem v_each {rs : List Nat} (hr : Region.ready md ops listed = rs) (hne : rs ≠ []) (h : ∀ i ∈ rs, ∀ w, S g w → StepV P md ops Q S R fuel listed a g w i) : wpAnyV P md ops Q S R (fuel + 1) listed a g := by
  refine ⟨fun h0 => absurd (hr ▸ h0) hne, fun i hi w hS => ?_⟩
  obtain ⟨o, ho, hw, h1⟩ := h i (hr ▸ hi) w hS
  unfold wpOp
  simp only [ho]
  rw [if_pos hw]
  left
  unfold Oper.wp
  rcases h1 with ⟨v, w', g', hrun, hR, hS', hV⟩ | ⟨w', g', hrun, hR, hS', hV⟩
  · rw [hrun]; exact ⟨g', hR, hS', hV⟩
  · rw [hrun]; exact ⟨g', hR, hS', hV⟩
theorem v_done (hr : Region.ready md ops listed = []) (h : ∀ w, S g w → Q .normal a w) : ∀ n, wpAnyV P md ops Q S R n listed a g
  | 0 => ⟨hr, h⟩
  | _ + 1 => ⟨fun _ => h, fun i hi => by rw [hr] at hi; cases hi⟩
theorem v_start (R : γ → γ → Prop) (g : γ) {id : Nat} (hm : P.follows .mixedOrders = true) (hS : S g w.drew) (h : wpAnyV P .any ops Q S R ops.size (Array.replicate ops.size false) a g) : (Code.region id ops true).wp P Q a w :=
  wp_region_any hm (wpAny_of_v _ _ _ _ h _ hS)
theorem gv_value {v : Value} (hw : Region.wanted o (yielded ops a.tmps) = true) (h : ∀ g1, R g g1 → ∀ w, S g1 w → (execOp a.eval o).run P w = .ok (.value v) w) : GivesV P ops S R g o v a :=
  .inl ⟨hw, fun g1 hg w hS => by rw [h g1 hg w hS]; exact ⟨rfl, hS⟩⟩
theorem gv_call {v : Value} (hw : Region.wanted o (yielded ops a.tmps) = true) (f : FuncId) (xs : Array Operand) (ats : Array TypeId) (ho : o.op = .call { callee := .value (.func f), args := xs, argTypes := ats })
    (args : Array Value) (hargs : xs.map a.eval = args) (hfn : ∀ w, (callFunc f args).run P w = .ok (.enter f args) w) (h : ∀ g1, R g g1 → ∀ w, S g1 w → Calls P f args w fun e w' => e = .returned v ∧ S g1 w') : GivesV P ops S R g o v a :=
  .inl ⟨hw, fun b hg w hS => by
    have hx : (execOp a.eval o).run P w = .ok (.enter f args) w := by
      obtain ⟨dst, op, type, pos, after, guard⟩ := o
      subst ho
      show (execOp a.eval _).run P w = _
      rw [execOp_call_go]
      have e : #[] ++ xs.map a.eval ++ #[] = args := by rw [hargs]; simp
      rw [e]; exact hfn w
    rw [hx]; exact h b hg w hS⟩
theorem run_alloc {ρ : Operand → Value} {ty : TypeId} (ho : o.op = .alloc ty) (cs : Array Value) (hz : (P.info? ty).bind (·.zero) = some (.agg cs)) (w : World) : (execOp ρ o).run P w = .ok (.value (.pointer (some ⟨w.heap.size, 0, none⟩))) (w.alloc (.cells cs ty)) := by
  cases hq : P.info? ty with
  | none => simp [hq] at hz
  | some i =>
    have hz' : i.zero = some (.agg cs) := by simpa [hq] using hz
    unfold execOp
    simp only [ho]
    simp [Instr.alloc, zeroValue, typeInfo, hq, hz', newVar, newRow, Value.cells]
end
end Go.Proofs.YthigbggacgiamaaDoor

namespace Go.Proofs.YthigbggacgiamaaDoor
open Go.RowKit
abbrev Word := (World → Prop) × (World → Prop)
def PW (g : Word) (W : World) : Prop := g.1 W ∧ g.2 W
def PR (g g' : Word) : Prop := ∀ W, g'.1 W → g.1 W
theorem PR.rf (g : Word) : PR g g := fun _ h => h
theorem PR.tr (x y z : Word) (h : PR x y) (h' : PR y z) : PR x z := fun W h1 => h W (h' W h1)
section
variable {P : Program} {ops : Array Oper} {Q : Exit → Act → World → Prop} {md : Region.Mode} {o o' : Oper} {fuel : Nat} {listed : Array Bool} {a : Act} {g x : World → Prop} {w : World}
theorem p_take (i : Nat) (hi : ops[i]? = some o) (hs : Region.noSelect ops = true) (hf : Region.free md ops listed i = true) (hr : (Region.ready md ops listed).contains i = true) (hw : Region.wanted o (yielded ops a.tmps) = true) (v : Value) (hQ : ∀ c a w, Q (.panic c) (a.put o.dst v) w → Q (.panic c) a w)
    (hrun : ∀ W, g W → (execOp a.eval o).run P W = .ok (.value v) W) (h : wpAnyV P md ops Q PW PR fuel (listed.setIfInBounds i true) (a.put o.dst v) (g, x)) : wpAnyV P md ops Q PW PR (fuel + 1) listed a (g, x) :=
  v_take PR.rf PR.tr i hi hs hf hr v hQ (gv_value hw (fun _ hg W hW => hrun W (hg W hW.1))) h
/-- An operation whose guard does not let it run. -/
theorem p_not (i : Nat) (hi : ops[i]? = some o) (hs : Region.noSelect ops = true) (hf : Region.free md ops listed i = true) (hr : (Region.ready md ops listed).contains i = true) (hw : Region.wanted o (yielded ops a.tmps) = false) (hQ : ∀ c a w, Q (.panic c) (a.put o.dst undef) w → Q (.panic c) a w)
    (h : wpAnyV P md ops Q PW PR fuel (listed.setIfInBounds i true) (a.put o.dst undef) (g, x)) : wpAnyV P md ops Q PW PR (fuel + 1) listed a (g, x) :=
  v_take PR.rf PR.tr i hi hs hf hr undef hQ (.inr ⟨hw, rfl⟩) h
/-- What comes behind a step. -/
def Next (P : Program) (md : Region.Mode) (ops : Array Oper) (Q : Exit → Act → World → Prop) (fuel : Nat) (listed : Array Bool) (g : World → Prop) (a : Act) (w : World) : Prop :=
  ∃ g' x' : World → Prop, (∀ W, g' W → g W) ∧ g' w ∧ x' w ∧ wpAnyV P md ops Q PW PR fuel listed a (g', x')
theorem Next.mk (g' x' : World → Prop) (h1 : ∀ W, g' W → g W) (h2 : g' w) (hx : x' w) (h3 : wpAnyV P md ops Q PW PR fuel listed a (g', x')) : Next P md ops Q fuel listed g a w := ⟨g', x', h1, h2, hx, h3⟩
theorem Next.un (h : Next P md ops Q fuel listed g a w) : ∃ g', PR (g, x) g' ∧ PW g' w ∧ wpAnyV P md ops Q PW PR fuel listed a g' := by
  obtain ⟨g', x', h1, h2, h3, h4⟩ := h
  exact ⟨(g', x'), h1, ⟨h2, h3⟩, h4⟩
theorem p_one (i : Nat) (hr : Region.ready md ops listed = [i]) (h : ∀ W, g W → x W → wpOp P ops Q i (Next P md ops Q fuel (listed.setIfInBounds i true) g) a W) : wpAnyV P md ops Q PW PR (fuel + 1) listed a (g, x) := by
  refine ⟨fun h0 => (by rw [hr] at h0; cases h0), fun j hj W hW => ?_⟩
  rw [hr] at hj
  obtain rfl : j = i := by simpa using hj
  exact wpOp_mono (fun a' w' h => h.un) (h W hW.1 hW.2)
theorem p_two (i j : Nat) (hr : Region.ready md ops listed = [i, j]) (h : ∀ W, g W → x W → wpOp P ops Q i (Next P md ops Q fuel (listed.setIfInBounds i true) g) a W)
    (h' : ∀ W, g W → x W → wpOp P ops Q j (Next P md ops Q fuel (listed.setIfInBounds j true) g) a W) : wpAnyV P md ops Q PW PR (fuel + 1) listed a (g, x) := by
  refine ⟨fun h0 => (by rw [hr] at h0; cases h0), fun k hk W hW => ?_⟩
  rw [hr] at hk
  rcases List.mem_cons.1 hk with rfl | hk
  · exact wpOp_mono (fun a' w' h => h.un) (h W hW.1 hW.2)
  · obtain rfl : k = j := by simpa using hk
    exact wpOp_mono (fun a' w' h => h.un) (h' W hW.1 hW.2)
theorem op_call {i : Nat} {K : Act → World → Prop} (hi : ops[i]? = some o) (hw : Region.wanted o (yielded ops a.tmps) = true) (f : FuncId) (xs : Array Operand) (ats : Array TypeId) (ho : o.op = .call { callee := .value (.func f), args := xs, argTypes := ats }) (args : Array Value) (hargs : xs.map a.eval = args)
    (hfn : ∀ w, (callFunc f args).run P w = .ok (.enter f args) w) (h : Calls P f args w fun e w' => ∃ v, e = .returned v ∧ K (a.put o.dst v) w') : wpOp P ops Q i K a w := by
  unfold wpOp
  simp only [hi]
  rw [if_pos hw]
  left
  unfold Oper.wp
  have hx : (execOp a.eval o).run P w = .ok (.enter f args) w := by
    obtain ⟨dst, op, type, pos, after, guard⟩ := o
    subst ho
    show (execOp a.eval _).run P w = _
    rw [execOp_call_go]
    have e : #[] ++ xs.map a.eval ++ #[] = args := by rw [hargs]; simp
    rw [e]; exact hfn w
  rw [hx]
  refine h.mono ?_
  rintro e w' ⟨v, rfl, hK⟩
  exact hK
theorem op_do {i : Nat} {K : Act → World → Prop} (hi : ops[i]? = some o) (hw : Region.wanted o (yielded ops a.tmps) = true) (v : Value) (w2 : World) (hrun : (execOp a.eval o).run P w = .ok (.value v) w2) (h : K (a.put o.dst v) w2) : wpOp P ops Q i K a w := by
  unfold wpOp
  simp only [hi]
  rw [if_pos hw]
  left
  unfold Oper.wp
  rw [hrun]
  exact h
theorem p_done (hr : Region.ready md ops listed = []) (h : ∀ W, g W → Q .normal a W) (n : Nat) : wpAnyV P md ops Q PW PR n listed a (g, x) := v_done hr (fun W hW => h W hW.1) n
theorem p_start (g : World → Prop) {id : Nat} (hm : P.follows .mixedOrders = true) (hS : g w.drew) (h : wpAnyV P .any ops Q PW PR ops.size (Array.replicate ops.size false) a (g, fun _ => True)) : (Code.region id ops true).wp P Q a w := v_start PR (g, fun _ => True) hm ⟨hS, trivial⟩ h
end
theorem run_eqT {P : Program} {ρ : Operand → Value} {o : Oper} {x y : Operand} {t rt : TypeId} (ho : o.op = .binOp .eql t x y rt) (l m : List UInt8) (h : l = m) (hx : ρ x = .string (str l)) (hy : ρ y = .string (str m)) (w : World) :
    (execOp ρ o).run P w = .ok (.value (.bool true)) w := by
  rw [run_eqStr ho l m hx hy w, decide_eq_true h]
theorem run_neqF {P : Program} {ρ : Operand → Value} {o : Oper} {x y : Operand} {t rt : TypeId} (ho : o.op = .binOp .neq t x y rt) (l m : List UInt8) (h : l = m) (hx : ρ x = .string (str l)) (hy : ρ y = .string (str m)) (w : World) :
    (execOp ρ o).run P w = .ok (.value (.bool false)) w := by
  subst h
  have e : (binOp .neq t (.string (str l)) (.string (str l))).run P w = .ok (.bool false) w := by
    show (Op.stringOp .neq (str l) (str l)).run P w = _
    simp [Op.stringOp]
  unfold execOp
  have eg : (eqGuard .neq t x y (.string (str l)) (.string (str l))).run P w = .ok () w := rfl
  simp only [ho, hx, hy, Sem.run_bind]
  rw [eg, Result.andThen_ok, e]
  rfl
theorem op_appendB {P : Program} {K : Act → World → Prop} {Q : Exit → Act → World → Prop} {ops : Array Oper} {o : Oper} {a : Act} {w : World} {i : Nat} (hP : P = Tryd.prog) (hi : ops[i]? = some o) (hw : Region.wanted o (yielded ops a.tmps) = true) (s x : Operand)
    (ho : o.op = .call { callee := .builtin .append, args := #[s, x], argTypes := #[30, 30] })
    (B : Nat) (v : Value) (l : List UInt8) (hs : a.eval s = v) (hown : OwnB w B v l) (B' : Nat) (A : Option Addr) (m c : Nat) (ys : List UInt8) (hx : a.eval x = .slice A m c) (hr : ReadsB w B' A m ys)
    (hlen : l.length + ys.length ≤ 140737488355328) (hB : B ≤ w.heap.size)
    (h : ∀ v' w', OwnB w' B v' (l ++ ys) → w.grownBy w' v.ownBlock → (v'.ownBlock = v.ownBlock ∨ v'.ownBlock = some w.heap.size) → K (a.put o.dst v') w') : wpOp P ops Q i K a w := by
  subst hP
  unfold wpOp
  simp only [hi]
  rw [if_pos hw]
  left
  obtain ⟨i0, hi0, hz0, hz1, hz2⟩ := info_parts u8_info
  have hm := hr.len
  refine wp_append_any w s x _ ho B 5 i0 _ 1 1 Tryd.underlying30 hi0 hz0 hz1 hz2 rfl (by omega) v l.length (l.map U8) hs hown.own B' A m c (ys.map U8) hx hr.is (by simp [Value.oneCell']) (by unfold maxLen; omega) (by omega) hB ?_
  intro v' w' h1 h2 h3
  refine h v' w' ⟨?_⟩ h2 h3
  rw [List.length_append, hm, List.map_append]; exact h1
end Go.Proofs.YthigbggacgiamaaDoor

namespace Go.Proofs.YthigbggacgiamaaDoor
open Go.RowKit
/-- A call of a function value that a slot holds, with what it captured. -/
theorem op_callV {P : Program} {w : World} {Q : Exit → Act → World → Prop} {ops : Array Oper} {a : Act} {o : Oper} {i : Nat} {K : Act → World → Prop} (hi : ops[i]? = some o) (hw : Region.wanted o (yielded ops a.tmps) = true) (x : Operand) (xs : Array Operand) (ats : Array TypeId)
    (ho : o.op = .call { callee := .value x, args := xs, argTypes := ats }) (f : FuncId) (cap args : Array Value) (hx : a.eval x = .func (.func f) #[] cap) (hargs : xs.map a.eval ++ cap = args)
    (hfn : ∀ w, (callFunc f args).run P w = .ok (.enter f args) w) (h : Calls P f args w fun e w' => ∃ v, e = .returned v ∧ K (a.put o.dst v) w') : wpOp P ops Q i K a w := by
  unfold wpOp
  simp only [hi]
  rw [if_pos hw]
  left
  unfold Oper.wp
  have hr : (execOp a.eval o).run P w = .ok (.enter f args) w := by
    unfold execOp
    simp only [ho, resolve, hx]
    simp [go_sem, hargs, hfn]
  rw [hr]
  refine h.mono ?_
  rintro e w' ⟨v, rfl, hK⟩
  exact hK
end Go.Proofs.YthigbggacgiamaaDoor

namespace Go.Proofs.YthigbggacgiamaaDoor
open Go.RowKit
/-- Does operation l wait for operation i? -/
def waits (md : Region.Mode) (ops : Array Oper) (l i : Nat) : Bool := match ops[l]? with
  | some o => o.after.any fun e => Region.binds md e && e.on == i
  | none => false
section
variable {P : Program} {ops : Array Oper} {Q : Exit → Act → World → Prop} {md : Region.Mode} {γ : Type} {S : γ → World → Prop} {R : γ → γ → Prop}
/-- As wpAnyV; the step of operation l is free of R. -/
def wpAnyX (P : Program) (md : Region.Mode) (ops : Array Oper) (Q : Exit → Act → World → Prop) {γ : Type} (S : γ → World → Prop) (R : γ → γ → Prop) (l : Nat) : Nat → Array Bool → Act → γ → Prop
  | 0, listed, a, g => Region.ready md ops listed = [] ∧ ∀ w, S g w → Q .normal a w
  | n + 1, listed, a, g => (Region.ready md ops listed = [] → ∀ w, S g w → Q .normal a w) ∧
    ∀ i ∈ Region.ready md ops listed, ∀ w, S g w → wpOp P ops Q i (fun a' w' => ∃ g', (i = l ∨ R g g') ∧ S g' w' ∧ wpAnyX P md ops Q S R l n (listed.setIfInBounds i true) a' g') a w
theorem wpAny_of_x {l : Nat} : ∀ (n : Nat) (listed : Array Bool) (a : Act) (g : γ), wpAnyX P md ops Q S R l n listed a g → ∀ w, S g w → wpAny P md ops Q n listed a w
  | 0, _, _, _, h, w, hS => ⟨h.1, h.2 w hS⟩
  | n + 1, listed, a, g, h, w, hS => ⟨fun h0 => h.1 h0 w hS, fun i hi => wpOp_mono (fun a' w' ⟨g', _, h1, h2⟩ => wpAny_of_x n _ a' g' h2 w' h1) (h.2 i hi w hS)⟩
theorem wpAnyX_first {l : Nat} (rf : ∀ g, R g g) (tr : ∀ x y z, R x y → R y z → R x z) {i : Nat} {oi : Oper} {v : Value} (hl : waits md ops l i = true) (hi : ops[i]? = some oi) (hsel : ∀ (j : Nat) (o : Oper) cs b, ops[j]? = some o → o.op ≠ .select cs b) (hQ : ∀ c a w, Q (.panic c) (a.put oi.dst v) w → Q (.panic c) a w) :
    ∀ (n : Nat) (listed : Array Bool) (a : Act) (g : γ), (∀ j oj, ops[j]? = some oj → j ≠ i → listed.getD j true = false → (∀ e ∈ oj.after, Region.binds md e = true → e.on ≠ i) → oi.apart ops oj = true) →
      i ∈ Region.ready md ops listed → GivesV P ops S R g oi v a → wpAnyX P md ops Q S R l n (listed.setIfInBounds i true) (a.put oi.dst v) g → wpAnyX P md ops Q S R l (n + 1) listed a g := by
  intro n
  induction n with
  | zero =>
    intro listed a g _ hr hy H
    refine ⟨fun h => (by rw [h] at hr; cases hr), fun j hj w hS => ?_⟩
    by_cases hji : j = i
    · subst hji; exact hy.wpOp hi (rf g) hS fun w' hS' => ⟨g, .inr (rf g), hS', H⟩
    · have h0 := ready_mono hj hji
      rw [H.1] at h0; cases h0
  | succ n ih =>
    intro listed a g hfree hr hy H
    refine ⟨fun h => (by rw [h] at hr; cases hr), fun j hj w hS => ?_⟩
    by_cases hji : j = i
    · subst hji; exact hy.wpOp hi (rf g) hS fun w' hS' => ⟨g, .inr (rf g), hS', H⟩
    · obtain ⟨hjun, oj, hoj, hall⟩ := mem_ready.1 hj
      have hwait : ∀ e ∈ oj.after, Region.binds md e = true → e.on ≠ i := by
        intro e he hb heq
        have h1 := hall e he hb
        have h0 := (mem_ready.1 hr).1
        rw [heq] at h1
        rcases Nat.lt_or_ge i listed.size with h' | h'
        · simp [h'] at h0 h1; rw [h0] at h1; cases h1
        · simp [Array.getElem?_eq_none h'] at h1
      have hjl : j ≠ l := by
        intro e
        subst e
        unfold waits at hl
        rw [hoj] at hl
        obtain ⟨e, he, h⟩ := Array.any_eq_true'.1 hl
        simp only [Bool.and_eq_true, beq_iff_eq] at h
        exact hwait e he h.1 h.2
      have h2 := wpOp_apartV hoj (hfree j oj hoj hji hjun hwait) (fun cs b => hsel i oi cs b hi) (fun cs b => hsel j oj cs b hoj) hQ hy (H.2 j (ready_mono hj hji) w hS)
      have hfree2 : ∀ k ok, ops[k]? = some ok → k ≠ i → (listed.setIfInBounds j true).getD k true = false → (∀ e ∈ ok.after, Region.binds md e = true → e.on ≠ i) → oi.apart ops ok = true := by
        intro k ok hk hki hun hno
        refine hfree k ok hk hki ?_ hno
        by_cases hjk : j = k
        · subst hjk; exact hjun
        · rw [getD_set_ne true hjk] at hun; exact hun
      refine wpOp_mono (fun a' w' ⟨h3, g', h6, h4, h5⟩ => ⟨g', h6, h4, ih (listed.setIfInBounds j true) a' g' hfree2 (ready_mono hr (Ne.symm hji)) (h3.after tr (h6.resolve_left hjl)) ?_⟩) h2
      rw [Array.setIfInBounds_comm _ _ hji]
      exact h5
end
section
variable {P : Program} {ops : Array Oper} {Q : Exit → Act → World → Prop} {md : Region.Mode} {o o' : Oper} {fuel l : Nat} {listed : Array Bool} {a : Act} {g x : World → Prop} {w : World}
theorem x_take (i : Nat) (hi : ops[i]? = some o) (hl : waits md ops l i = true) (hs : Region.noSelect ops = true) (hf : Region.free md ops listed i = true) (hr : (Region.ready md ops listed).contains i = true) (hw : Region.wanted o (yielded ops a.tmps) = true) (v : Value) (hQ : ∀ c a w, Q (.panic c) (a.put o.dst v) w → Q (.panic c) a w)
    (hrun : ∀ W, g W → (execOp a.eval o).run P W = .ok (.value v) W) (h : wpAnyX P md ops Q PW PR l fuel (listed.setIfInBounds i true) (a.put o.dst v) (g, x)) : wpAnyX P md ops Q PW PR l (fuel + 1) listed a (g, x) :=
  wpAnyX_first PR.rf PR.tr hl hi (Region.noSelect_spec hs) hQ fuel listed a (g, x) (Region.free_spec hi hf) (by simpa using hr) (gv_value hw (fun _ hg W hW => hrun W (hg W hW.1))) h
theorem x_not (i : Nat) (hi : ops[i]? = some o) (hl : waits md ops l i = true) (hs : Region.noSelect ops = true) (hf : Region.free md ops listed i = true) (hr : (Region.ready md ops listed).contains i = true) (hw : Region.wanted o (yielded ops a.tmps) = false) (hQ : ∀ c a w, Q (.panic c) (a.put o.dst undef) w → Q (.panic c) a w)
    (h : wpAnyX P md ops Q PW PR l fuel (listed.setIfInBounds i true) (a.put o.dst undef) (g, x)) : wpAnyX P md ops Q PW PR l (fuel + 1) listed a (g, x) :=
  wpAnyX_first PR.rf PR.tr hl hi (Region.noSelect_spec hs) hQ fuel listed a (g, x) (Region.free_spec hi hf) (by simpa using hr) (.inr ⟨hw, rfl⟩) h
/-- What comes behind a step. -/
def NextX (P : Program) (md : Region.Mode) (ops : Array Oper) (Q : Exit → Act → World → Prop) (l fuel : Nat) (listed : Array Bool) (g : World → Prop) (a : Act) (w : World) : Prop :=
  ∃ g' x' : World → Prop, (∀ W, g' W → g W) ∧ g' w ∧ x' w ∧ wpAnyX P md ops Q PW PR l fuel listed a (g', x')
theorem NextX.mk (g' x' : World → Prop) (h1 : ∀ W, g' W → g W) (h2 : g' w) (hx : x' w) (h3 : wpAnyX P md ops Q PW PR l fuel listed a (g', x')) : NextX P md ops Q l fuel listed g a w := ⟨g', x', h1, h2, hx, h3⟩
theorem NextX.un {i : Nat} (h : NextX P md ops Q l fuel listed g a w) : ∃ g', (i = l ∨ PR (g, x) g') ∧ PW g' w ∧ wpAnyX P md ops Q PW PR l fuel listed a g' := by
  obtain ⟨g', x', h1, h2, h3, h4⟩ := h
  exact ⟨(g', x'), .inr h1, ⟨h2, h3⟩, h4⟩
theorem x_one (i : Nat) (hr : Region.ready md ops listed = [i]) (h : ∀ W, g W → x W → wpOp P ops Q i (NextX P md ops Q l fuel (listed.setIfInBounds i true) g) a W) : wpAnyX P md ops Q PW PR l (fuel + 1) listed a (g, x) := by
  refine ⟨fun h0 => (by rw [hr] at h0; cases h0), fun j hj W hW => ?_⟩
  rw [hr] at hj
  obtain rfl : j = i := by simpa using hj
  exact wpOp_mono (fun a' w' h => h.un) (h W hW.1 hW.2)
theorem x_two (i j : Nat) (hr : Region.ready md ops listed = [i, j]) (h : ∀ W, g W → x W → wpOp P ops Q i (NextX P md ops Q l fuel (listed.setIfInBounds i true) g) a W)
    (h' : ∀ W, g W → x W → wpOp P ops Q j (NextX P md ops Q l fuel (listed.setIfInBounds j true) g) a W) : wpAnyX P md ops Q PW PR l (fuel + 1) listed a (g, x) := by
  refine ⟨fun h0 => (by rw [hr] at h0; cases h0), fun k hk W hW => ?_⟩
  rw [hr] at hk
  rcases List.mem_cons.1 hk with rfl | hk
  · exact wpOp_mono (fun a' w' h => h.un) (h W hW.1 hW.2)
  · obtain rfl : k = j := by simpa using hk
    exact wpOp_mono (fun a' w' h => h.un) (h' W hW.1 hW.2)
/-- The last operation: the region ends behind it. -/
theorem x_last (hr : Region.ready md ops listed = [l]) (hr' : Region.ready md ops (listed.setIfInBounds l true) = []) (h : ∀ W, g W → x W → wpOp P ops Q l (fun a' w' => Q .normal a' w') a W) (n : Nat) : wpAnyX P md ops Q PW PR l (n + 1) listed a (g, x) := by
  refine ⟨fun h0 => (by rw [hr] at h0; cases h0), fun j hj W hW => ?_⟩
  rw [hr] at hj
  obtain rfl : j = l := by simpa using hj
  refine wpOp_mono (fun a' w' h => ⟨((fun W => W = w'), (fun _ => True)), .inl rfl, ⟨rfl, trivial⟩, ?_⟩) (h W hW.1 hW.2)
  cases n with
  | zero => exact ⟨hr', fun W hW => by rw [show W = w' from hW.1]; exact h⟩
  | succ n => exact ⟨fun _ W hW => by rw [show W = w' from hW.1]; exact h, fun i hi => by rw [hr'] at hi; cases hi⟩
theorem x_start (l : Nat) (g : World → Prop) {id : Nat} (hm : P.follows .mixedOrders = true) (hS : g w.drew) (h : wpAnyX P .any ops Q PW PR l ops.size (Array.replicate ops.size false) a (g, fun _ => True)) : (Code.region id ops true).wp P Q a w :=
  wp_region_any hm (wpAny_of_x _ _ _ _ h _ ⟨hS, trivial⟩)
theorem op_skip {i : Nat} {K : Act → World → Prop} (hi : ops[i]? = some o) (hw : Region.wanted o (yielded ops a.tmps) = true) (w2 : World) (hrun : (execOp a.eval o).run P w = .ok .skip w2) (h : K (a.put o.dst undef) w2) : wpOp P ops Q i K a w := by
  unfold wpOp
  simp only [hi]
  rw [if_pos hw]
  left
  unfold Oper.wp
  rw [hrun]
  exact h
end
end Go.Proofs.YthigbggacgiamaaDoor

namespace Go.Proofs.YthigbggacgiamaaDoor
open Go.RowKit
theorem wpl_run {P : Program} {w w2 : World} {o : Oper} {a : Act} {Q : Exit → Act → World → Prop} {ops : Array Oper} {rest : List Oper} (hw : Region.wanted o (yielded ops a.tmps) = true) (v : Value) (hrun : (execOp a.eval o).run P w = .ok (.value v) w2) (h : wpList P ops Q rest (a.put o.dst v) w2) : wpList P ops Q (o :: rest) a w :=
  wpList_step fun K hK => by
    rw [if_pos hw]
    unfold Oper.wp
    rw [hrun]
    exact hK _ _ h
theorem u8_cell1 : (Tryd.prog.info? 5).map (·.size) = some 1 := by kernel_rfl
theorem run_slice_from {P : Program} {w : World} {o : Oper} {ρ : Operand → Value} {t e : TypeId} {x y : Operand} (ho : o.op = .slice t x (some y) none none) (ht : P.underlying t = some (.slice e)) (hs : (P.info? e).map (·.size) = some 1) (D : Option Addr) (n d k : Nat)
    (hx : ρ x = .slice D n d) (hy : ρ y = .int .i64 (k : Int)) (hk : k ≤ n) (hnd : n ≤ d) : (execOp ρ o).run P w = .ok (.value (.slice (if d = k then D else D.map (·.add k)) (n - k) (d - k))) w := by
  have h1 : (k : Int) ≤ (n : Int) := by omega
  have h2 : (n : Int) ≤ (d : Int) := by omega
  have h3 : (0 : Int) ≤ (k : Int) := by omega
  unfold execOp
  simp only [ho, hx, hy]
  by_cases h4 : d = k
  · simp [go_sem, Instr.sliceAt, Instr.slice, Instr.sliceBounds, Instr.sliceBound, run_underlying ht, run_sizeOf hs, hy, h1, h2, h3, hnd, hk, asIntOf, h4]
  · simp [go_sem, Instr.sliceAt, Instr.slice, Instr.sliceBounds, Instr.sliceBound, run_underlying ht, run_sizeOf hs, hy, h1, h2, h3, hnd, hk, asIntOf, h4]
theorem run_slice_to {P : Program} {w : World} {o : Oper} {ρ : Operand → Value} {t e : TypeId} {x y : Operand} (ho : o.op = .slice t x none (some y) none) (ht : P.underlying t = some (.slice e)) {m : Nat} (hs : (P.info? e).map (·.size) = some m) (D : Option Addr) (k d n : Nat)
    (hx : ρ x = .slice D k d) (hy : ρ y = .int .i64 (n : Int)) (hn : n ≤ d) : (execOp ρ o).run P w = .ok (.value (.slice D n d)) w := by
  have h2 : (n : Int) ≤ (d : Int) := by omega
  have h3 : (0 : Int) ≤ (n : Int) := by omega
  unfold execOp
  simp only [ho, hx, hy]
  simp [go_sem, Instr.sliceAt, Instr.slice, Instr.sliceBounds, Instr.sliceBound, run_underlying ht, run_sizeOf hs, hy, h2, h3, hn, asIntOf, Addr.add_zero']
end Go.Proofs.YthigbggacgiamaaDoor

namespace Go.Proofs.YthigbggacgiamaaDoor
open Go.RowKit
theorem zero_cells (k : Nat) : Builtin.zeroCells #[.int .u8 0] k = ((List.replicate k (0 : UInt8)).map U8).toArray := by
  refine Array.ext (by simp [Builtin.zeroCells]) fun i h1 h2 => ?_
  simp [Builtin.zeroCells, U8, Nat.mod_one]
  rfl
theorem run_append0 (w : World) (ty : TypeId) (B : Nat) (v : Value) (l : List UInt8) (k : Nat) (hown : OwnB w B v l) (h0 : 0 < l.length) (hk : l.length + k ≤ 140737488355328) (hB : B ≤ w.heap.size) :
    ∃ v' w', (Builtin.append_ #[30, 3] ty #[v, .int .i64 k]).run Tryd.prog w = .ok v' w' ∧ OwnB w' B v' (l ++ List.replicate k 0) ∧ w.grownBy w' v.ownBlock ∧ (v'.ownBlock = v.ownBlock ∨ v'.ownBlock = some w.heap.size) := by
  obtain ⟨i, hi, hz, hs, hb⟩ := info_parts u8_info
  have ht := Tryd.underlying30
  have htn := Tryd.underlying3
  have hlen : (l.map U8 ++ (List.replicate k (0 : UInt8)).map U8).length = l.length + k := by simp
  have hw : IntKind.i64.wrap (k : Int) = k := IntWalk.i64_in _ (by omega)
  have hneg : ¬ ((k : Int) < 0) := by omega
  have h48i : ¬ (281474976710656 < (k : Int)) := by omega
  have hol : (l ++ List.replicate k 0).length = l.length + k := by simp
  have hom : (l ++ List.replicate k 0).map U8 = l.map U8 ++ (List.replicate k (0 : UInt8)).map U8 := List.map_append
  have ho := hown
  obtain ⟨hx, h2⟩ := hown.own
  rcases h2 with ⟨rfl, h⟩ | ⟨g, cap, cur, rfl, hg, hh, hnc, hcm, hcs, htake⟩
  · omega
  · by_cases hr : l.length + k ≤ cap
    · have hst := run_storeCells_at Tryd.prog g l.length 5 ((List.replicate k (0 : UInt8)).map U8) 0 cur w hh (by simp; omega) (by simp [U8, Value.oneCell'])
      have hz' : (Builtin.zeroCells (#[Value.int IntKind.u8 0] : Array Value) k).toList = (List.replicate k (0 : UInt8)).map U8 := by rw [zero_cells]
      simp only [Nat.add_zero] at hst
      refine ⟨.slice (some ⟨g, 0, none⟩) (l.length + k) cap, w.setRow g (cur.toList.take l.length ++ (List.replicate k (0 : UInt8)).map U8 ++ cur.toList.drop (l.length + ((List.replicate k (0 : UInt8)).map U8).length)).toArray, ?_, ⟨?_⟩, ⟨rfl, rfl, rfl, by simp, fun k _ hk => setRow_other w g k _ (fun e => hk (by simp [Value.ownBlock, e]))⟩, Or.inl rfl⟩
      · by_cases hk0 : k = 0
        · have hn0 : (List.replicate k (0 : UInt8)).map U8 = [] := by rw [hk0]; rfl
          rw [hn0] at hst ⊢
          have hw0 : IntKind.i64.wrap 0 = 0 := IntWalk.i64_in _ (by omega)
          have hst' := hst
          subst hk0
          simp [Builtin.append_, run_underlying ht, run_underlying htn, sizeOf, typeInfo, zeroValue, hi, hz, hs, hb, asInt, asIntOf, hw0, hnc, Addr.add_lit, hst']
        · have hmul : ¬ (k * 1 = 0) := by omega
          simp [Builtin.append_, run_underlying ht, run_underlying htn, sizeOf, typeInfo, zeroValue, hi, hz, hs, hb, asInt, asIntOf, hw, hneg, h48i, hr, hk0, Value.cells, Addr.add_lit]
          rw [hz', hst]
          simp
      · rw [hol, hom]
        refine ⟨by simp, .inr ⟨g, cap, _, rfl, hg, setRow_heap w g cur _ _ _ hh, hr, hcm, ?_, ?_⟩⟩
        · simp; omega
        · rw [Nat.mul_one] at htake
          rw [htake]
          simp only [Nat.mul_one]
          rw [← hlen]
          exact List.take_left
    · have hk0 : 0 < k := by omega
      have hfit := growslice_fits (need := l.length + k) (old := cap) (bytes := 1) (by omega) (by omega)
      have hold : (Builtin.firstCells i.size l.length (.slice (some ⟨g, 0, none⟩) l.length cap)).run Tryd.prog w.drew = .ok (l.map U8).toArray w.drew := by
        rw [hs]
        refine run_firstCells_some w.drew 1 l.length ⟨g, 0, none⟩ l.length cap (l.map U8) (by simp) fun j u hu => ?_
        have := hown.own.cells (g := g) rfl j u hu
        exact this
      have hrun := Lib.run_append_grow_zeros (P := Tryd.prog) w 30 3 ty 5 i _ .i64 .i64 ht htn hi hz (some ⟨g, 0, none⟩) l.length cap (l.map U8) hold k hk0 (by omega) (by omega) (by omega) (by rw [hb]; omega) (by rw [hb]; exact hfit)
      refine ⟨_, _, hrun, ⟨?_⟩, ⟨rfl, rfl, rfl, by simp, fun j hj _ => heap_alloc_old w.drew _ hj⟩, Or.inr rfl⟩
      rw [hol, hom]
      have hge := grownCap_ge w (l.length + k) cap 5
      refine ⟨by simp, .inr ⟨w.heap.size, _, _, rfl, hB, heap_alloc_new w.drew _, hge, grownCap_le_maxLen w _ _ _ (by unfold maxLen; omega), ?_, ?_⟩⟩
      · simp only [Array.size_append, List.size_toArray, size_zeroCells, List.length_map, Value.cells]
        simp
        omega
      · simp only [Value.cells, zero_cells, Array.toList_append, List.append_assoc, Nat.mul_one]
        rw [← List.append_assoc, ← hlen]
        exact List.take_left
/-- .. onto nil. -/
theorem run_append0_nil (w : World) (ty : TypeId) (k : Nat) (h0 : 0 < k) (hk : k ≤ 140737488355328) :
    ∃ v' w', (Builtin.append_ #[30, 3] ty #[.slice none 0 0, .int .i64 k]).run Tryd.prog w = .ok v' w' ∧ OwnB w' w.heap.size v' (List.replicate k 0) ∧ w.grownBy w' none := by
  obtain ⟨i, hi, hz, hs, hb⟩ := info_parts u8_info
  have ht := Tryd.underlying30
  have htn := Tryd.underlying3
  have hfit := growslice_fits (need := 0 + k) (old := 0) (bytes := 1) (by omega) (by omega)
  have hold : (Builtin.firstCells i.size 0 (.slice none 0 0)).run Tryd.prog w.drew = .ok (([] : List UInt8).map U8).toArray w.drew := by
    rw [hs]; rfl
  have hrun := Lib.run_append_grow_zeros (P := Tryd.prog) w 30 3 ty 5 i _ .i64 .i64 ht htn hi hz none 0 0 (([] : List UInt8).map U8) hold k h0 (by omega) (by omega) (by omega) (by rw [hb]; omega) (by rw [hb]; exact hfit)
  simp only [Nat.zero_add] at hrun
  refine ⟨_, _, hrun, ⟨?_⟩, ⟨rfl, rfl, rfl, by simp, fun j hj _ => heap_alloc_old w.drew _ hj⟩⟩
  have hge := grownCap_ge w k 0 5
  have hol : (List.replicate k (0 : UInt8)).length = k := List.length_replicate
  rw [hol]
  refine ⟨by simp, .inr ⟨w.heap.size, _, _, rfl, Nat.le_refl _, heap_alloc_new w.drew _, by omega, grownCap_le_maxLen w _ _ _ (by unfold maxLen; omega), ?_, ?_⟩⟩
  · simp only [Array.size_append, List.size_toArray, size_zeroCells, List.length_map, Value.cells]
    simp
    omega
  · simp only [Value.cells, zero_cells, Array.toList_append, List.append_assoc, Nat.mul_one]
    have hl : ((List.replicate k (0 : UInt8)).map U8).length = k := by simp
    simp only [List.map_nil, List.nil_append]
    exact List.take_left' hl
section
variable {w : World} {ops : Array Oper} {rest : List Oper} {o : Oper} {a : Act} {Q : Exit → Act → World → Prop}
theorem wpl_append0 (hgd : o.guard = none) (s x : Operand) (ho : o.op = .call { callee := .builtin .append, args := #[s, x], argTypes := #[30, 3] })
    (B : Nat) (v : Value) (l : List UInt8) (hs : a.eval s = v) (hown : OwnB w B v l) (k : Nat) (hx : a.eval x = .int .i64 k) (h0 : 0 < l.length)
    (hlen : l.length + k ≤ 140737488355328) (hB : B ≤ w.heap.size)
    (h : ∀ v' w', OwnB w' B v' (l ++ List.replicate k 0) → w.grownBy w' v.ownBlock → (v'.ownBlock = v.ownBlock ∨ v'.ownBlock = some w.heap.size) → wpList Tryd.prog ops Q rest (a.put o.dst v') w') : wpList Tryd.prog ops Q (o :: rest) a w := by
  obtain ⟨v', w', hrun, h1, h2, h3⟩ := run_append0 w o.type B v l k hown h0 hlen hB
  exact Lib.wpList_append_run w hgd s x _ _ ho _ _ hs hx v' w' hrun (h v' w' h1 h2 h3)
theorem made_noughts (n : Nat) : (madeCells (Value.int .u8 0).cells (n * 1)).toList = (List.replicate n (0 : UInt8)).map U8 := by
  rw [Nat.mul_one, List.map_replicate]
  simp only [madeCells, Value.cells, Array.toList_map, Array.toList_range]
  have e : ∀ x : Nat, (#[Value.int .u8 0] : Array Value)[x % (#[Value.int .u8 0] : Array Value).size]! = U8 0 := fun x => by
    rw [show x % (#[Value.int .u8 0] : Array Value).size = 0 from Nat.mod_one x]; rfl
  rw [List.map_congr_left (fun x _ => e x), List.map_const', List.length_range]
theorem run_makeI (w : World) (base n m : Nat) (hnm : n ≤ m) (hn : m ≤ 140737488355328) (hB : base ≤ w.heap.size) :
    ∃ w', (Instr.makeSlice 30 (.int .i64 (n : Int)) (.int .i64 (m : Int))).run Tryd.prog w = .ok (.slice (some ⟨w.heap.size, 0, none⟩) n m) w' ∧ OwnB w' base (.slice (some ⟨w.heap.size, 0, none⟩) n m) (List.replicate n 0) ∧ w.grownBy w' none := by
  obtain ⟨i0, hi0, hz0, hz1, hz2⟩ := info_parts u8_info
  have hrun := run_make (P := Tryd.prog) w 30 5 i0 _ Tryd.underlying30 hi0 hz0 .i64 .i64 (n : Int) (m : Int) (by omega) (by omega) (by rw [hz2]; omega) (by omega)
  refine ⟨w.alloc (.cells (madeCells (Value.int .u8 0).cells ((m : Int).toNat * i0.size)) 5), hrun, ⟨?_⟩, World.grownBy_alloc _ _ _⟩
  rw [List.length_replicate]
  refine ⟨by simp, .inr ⟨w.heap.size, m, _, rfl, hB, heap_alloc_new w _, hnm, by unfold maxLen; omega, ?_, ?_⟩⟩
  · simp [madeCells, hz1]
  · rw [hz1, Int.toNat_natCast, made_noughts, Nat.mul_one, ← List.map_take, List.take_replicate, Nat.min_eq_left hnm]
theorem run_makeRoom (w : World) {ρ : Operand → Value} {o : Oper} (l c : Operand) (ho : o.op = .makeSlice 30 l c) (base n m : Nat) (hl : ρ l = .int .i64 (n : Int)) (hc : ρ c = .int .i64 (m : Int)) (hnm : n ≤ m) (hn : m ≤ 140737488355328) (hB : base ≤ w.heap.size) :
    ∃ w', (execOp ρ o).run Tryd.prog w = .ok (.value (.slice (some ⟨w.heap.size, 0, none⟩) n m)) w' ∧ OwnB w' base (.slice (some ⟨w.heap.size, 0, none⟩) n m) (List.replicate n 0) ∧ w.grownBy w' none := by
  obtain ⟨i0, hi0, hz0, hz1, hz2⟩ := info_parts u8_info
  have hrun := run_make (P := Tryd.prog) w 30 5 i0 _ Tryd.underlying30 hi0 hz0 .i64 .i64 (n : Int) (m : Int) (by omega) (by omega) (by rw [hz2]; omega) (by omega)
  refine ⟨w.alloc (.cells (madeCells (Value.int .u8 0).cells ((m : Int).toNat * i0.size)) 5), ?_, ⟨?_⟩, World.grownBy_alloc _ _ _⟩
  · unfold execOp
    simp only [ho, hl, hc, Sem.run_bind, hrun, Result.andThen_ok]
    rfl
  · rw [List.length_replicate]
    refine ⟨by simp, .inr ⟨w.heap.size, m, _, rfl, hB, heap_alloc_new w _, hnm, by unfold maxLen; omega, ?_, ?_⟩⟩
    · simp [madeCells, hz1]
    · rw [hz1, Int.toNat_natCast, made_noughts, Nat.mul_one, ← List.map_take, List.take_replicate, Nat.min_eq_left hnm]
theorem wpl_makeRoom (hgd : o.guard = none) (l c : Operand) (ho : o.op = .makeSlice 30 l c) (base n m : Nat) (hl : a.eval l = .int .i64 (n : Int)) (hc : a.eval c = .int .i64 (m : Int)) (hnm : n ≤ m) (hn : m ≤ 140737488355328) (hB : base ≤ w.heap.size)
    (h : ∀ w', OwnB w' base (.slice (some ⟨w.heap.size, 0, none⟩) n m) (List.replicate n 0) → w.grownBy w' none → wpList Tryd.prog ops Q rest (a.put o.dst (.slice (some ⟨w.heap.size, 0, none⟩) n m)) w') : wpList Tryd.prog ops Q (o :: rest) a w :=
  wpList_plain hgd fun K hK => by
    obtain ⟨w', hrun, h1, h2⟩ := run_makeRoom w l c ho base n m hl hc hnm hn hB
    unfold Oper.wp
    rw [hrun]
    exact hK _ _ (h w' h1 h2)
end
theorem below_new {B : Nat} {a w w' : World} (h : Below B a w) (hg : w.grownBy w' none) (hs : B ≤ w.heap.size) : Below B a w' := h.grown hg hs (fun k hk => by cases hk)
end Go.Proofs.YthigbggacgiamaaDoor

namespace Go.Proofs.YthigbggacgiamaaDoor
open Go.RowKit
section
variable {w : World} {B B' : Nat} {A D : Option Addr} {n m c : Nat} {l t : List UInt8}
theorem run_appendRO (ty : TypeId) (hr : ReadsB w B A n l) (hA : A = none → n = 0) (ht : ReadsB w B' D m t) (hm0 : 0 < m) (hlen : n + m ≤ 140737488355328) :
    ∃ v' w', (Builtin.append_ #[30, 30] ty #[.slice A n n, .slice D m c]).run Tryd.prog w = .ok v' w' ∧ OwnB w' w.heap.size v' (l ++ t) ∧ w.grownBy w' none := by
  obtain ⟨i0, hi0, hz0, hz1, hz2⟩ := info_parts u8_info
  obtain ⟨ad, hD, _, hc⟩ := ht.is.2 hm0
  subst hD
  cases A with
  | none =>
    have hn := hA rfl
    subst hn
    have hl : l = [] := List.eq_nil_of_length_eq_zero hr.len
    subst hl
    have hm := ht.len
    obtain ⟨v', w', h1, h2, h3, _⟩ := run_append_any (P := Tryd.prog) (w := w) w.heap.size 30 ty 5 i0 _ 1 1 Tryd.underlying30 hi0 hz0 hz1 hz2 rfl (by omega) (.slice none 0 0) 0 [] (OwnB.nil w w.heap.size).own B' (some ad) m c (t.map U8) ht.is (by intro u hu; obtain ⟨x, _, rfl⟩ := List.mem_map.1 hu; rfl) (by unfold maxLen; omega) (by omega) (Nat.le_refl _)
    exact ⟨v', w', h1, ⟨by rw [List.nil_append, hm]; rw [Nat.zero_add] at h2; exact h2⟩, h3⟩
  | some b =>
    have hb : ∀ j u, (l.map U8)[j]? = some u → w.cell? (b.add j) = some u := fun j u hu => by
      rcases Nat.eq_zero_or_pos n with h | h
      · have hl : l = [] := List.eq_nil_of_length_eq_zero (by rw [hr.len, h])
        subst hl; simp at hu
      · obtain ⟨b', e, _, hc2⟩ := hr.is.2 h
        injection e with e
        subst e
        exact hc2 j u hu
    obtain ⟨v', w', h1, h2, h3⟩ := run_append_arg_grows (P := Tryd.prog) (w := w) 30 ty 5 i0 _ 1 1 Tryd.underlying30 hi0 hz0 hz1 hz2 rfl (by omega) b n n (l.map U8) (by simp [hr.len]) hb ad m c (t.map U8) (by simp [ht.len]) hc (by omega) (by unfold maxLen; omega) (by omega)
    exact ⟨v', w', h1, ⟨by rw [List.length_append, hr.len, ht.len, List.map_append]; exact h2⟩, h3⟩
theorem wpl_appendRO {ops : Array Oper} {rest : List Oper} {o : Oper} {a : Act} {Q : Exit → Act → World → Prop} (hgd : o.guard = none) (s x : Operand) (ho : o.op = .call { callee := .builtin .append, args := #[s, x], argTypes := #[30, 30] })
    (hs : a.eval s = .slice A n n) (hx : a.eval x = .slice D m c) (hr : ReadsB w B A n l) (hA : A = none → n = 0) (ht : ReadsB w B' D m t) (hm0 : 0 < m) (hlen : n + m ≤ 140737488355328)
    (h : ∀ v' w', OwnB w' w.heap.size v' (l ++ t) → w.grownBy w' none → wpList Tryd.prog ops Q rest (a.put o.dst v') w') : wpList Tryd.prog ops Q (o :: rest) a w := by
  obtain ⟨v', w', hrun, h1, h2⟩ := run_appendRO (c := c) o.type hr hA ht hm0 hlen
  refine wpList_plain hgd fun K hK => ?_
  have hrun' : (execOp a.eval o).run Tryd.prog w = .ok (.value v') w' := by
    unfold execOp
    simp only [ho, resolve, invoke, builtin, Sem.run_bind, Sem.run_pure, Result.andThen_ok, List.map_toArray, List.map_cons, List.map_nil, hs, hx, hrun]
  unfold Oper.wp
  rw [hrun']
  exact hK _ _ (h v' w' h1 h2)
end
end Go.Proofs.YthigbggacgiamaaDoor

namespace Go.Proofs.YthigbggacgiamaaDoor
namespace Gf
abbrev B := BitVec 128
def R : B := 0xe1000000000000000000000000000000#128
def one : B := 0x80000000000000000000000000000000#128
/-- Times x: the highest bit is the coefficient of 1. -/
def up (x : B) : B := (x >>> 1) ^^^ (if x.getLsbD 0 then R else 0#128)
def co (x : B) (i : Nat) : Bool := x.getLsbD (127 - i)
def upN : Nat → B → B
  | 0, x => x
  | n + 1, x => up (upN n x)
def pick (b : Bool) (x : B) : B := if b then x else 0#128
def mulTo : Nat → B → B → B
  | 0, _, _ => 0#128
  | n + 1, a, b => mulTo n a b ^^^ pick (co b n) (upN n a)
def mul (a b : B) : B := mulTo 128 a b
theorem xor4 (a b c d : B) : (a ^^^ b) ^^^ (c ^^^ d) = (a ^^^ c) ^^^ (b ^^^ d) := by ac_rfl
theorem pick_xor (b : Bool) (x y : B) : pick b (x ^^^ y) = pick b x ^^^ pick b y := by cases b <;> simp [pick]
theorem pick_bit (b c : Bool) (x : B) : pick (b ^^ c) x = pick b x ^^^ pick c x := by cases b <;> cases c <;> simp [pick]
theorem pick_zero (b : Bool) : pick b 0#128 = 0#128 := by cases b <;> rfl
theorem up_eq (x : B) : up x = (x >>> 1) ^^^ pick (x.getLsbD 0) R := rfl
theorem up_xor (x y : B) : up (x ^^^ y) = up x ^^^ up y := by
  rw [up_eq, up_eq, up_eq, BitVec.ushiftRight_xor_distrib, BitVec.getLsbD_xor, pick_bit, xor4]
theorem up_zero : up 0#128 = 0#128 := rfl
theorem up_pick (b : Bool) (x : B) : up (pick b x) = pick b (up x) := by cases b <;> simp [pick, up_zero]
theorem co_xor (x y : B) (i : Nat) : co (x ^^^ y) i = (co x i ^^ co y i) := BitVec.getLsbD_xor
theorem co_zero (i : Nat) : co 0#128 i = false := BitVec.getLsbD_zero
theorem upN_xor (n : Nat) (x y : B) : upN n (x ^^^ y) = upN n x ^^^ upN n y := by
  induction n with
  | zero => rfl
  | succ n ih => rw [upN, ih, up_xor]; rfl
theorem upN_zero (n : Nat) : upN n 0#128 = 0#128 := by
  induction n with
  | zero => rfl
  | succ n ih => rw [upN, ih, up_zero]
theorem upN_up (n : Nat) (x : B) : upN n (up x) = up (upN n x) := by
  induction n with
  | zero => rfl
  | succ n ih => rw [upN, ih]; rfl
theorem upN_add (n m : Nat) (x : B) : upN (n + m) x = upN n (upN m x) := by
  induction n with
  | zero => rw [Nat.zero_add]; rfl
  | succ n ih => rw [Nat.succ_add, upN, ih]; rfl
theorem mulTo_xor_left (n : Nat) (a a' b : B) : mulTo n (a ^^^ a') b = mulTo n a b ^^^ mulTo n a' b := by
  induction n with
  | zero => simp [mulTo]
  | succ n ih => rw [mulTo, ih, upN_xor, pick_xor, xor4]; rfl
theorem mulTo_xor_right (n : Nat) (a b b' : B) : mulTo n a (b ^^^ b') = mulTo n a b ^^^ mulTo n a b' := by
  induction n with
  | zero => simp [mulTo]
  | succ n ih => rw [mulTo, ih, co_xor, pick_bit, xor4]; rfl
theorem mulTo_zero_left (n : Nat) (b : B) : mulTo n 0#128 b = 0#128 := by
  induction n with
  | zero => rfl
  | succ n ih => rw [mulTo, ih, upN_zero, pick_zero]; rfl
theorem mulTo_zero_right (n : Nat) (a : B) : mulTo n a 0#128 = 0#128 := by
  induction n with
  | zero => rfl
  | succ n ih => rw [mulTo, ih, co_zero]; simp [pick]
theorem mulTo_up (n : Nat) (a b : B) : mulTo n (up a) b = up (mulTo n a b) := by
  induction n with
  | zero => exact up_zero.symm
  | succ n ih => rw [mulTo, ih, upN_up, mulTo, up_xor, up_pick]
theorem mul_xor_left (a a' b : B) : mul (a ^^^ a') b = mul a b ^^^ mul a' b := mulTo_xor_left _ _ _ _
theorem mul_xor_right (a b b' : B) : mul a (b ^^^ b') = mul a b ^^^ mul a b' := mulTo_xor_right _ _ _ _
theorem mul_zero_left (b : B) : mul 0#128 b = 0#128 := mulTo_zero_left _ _
theorem mul_zero_right (a : B) : mul a 0#128 = 0#128 := mulTo_zero_right _ _
theorem mul_up (a b : B) : mul (up a) b = up (mul a b) := mulTo_up _ _ _
theorem base_step : ∀ k : Fin 127, up (BitVec.twoPow 128 (k.val + 1)) = BitVec.twoPow 128 k.val := by decide +kernel
theorem base (n : Nat) (h : n < 128) : upN n one = BitVec.twoPow 128 (127 - n) := by
  induction n with
  | zero => rfl
  | succ n ih =>
    rw [upN, ih (by omega)]
    have := base_step ⟨127 - (n + 1), by omega⟩
    rw [← this, show (127 - (n + 1)) + 1 = 127 - n by omega]
theorem mulTo_one_bit (n : Nat) (hn : n ≤ 128) (a : B) (j : Nat) (hj : j < 128) : (mulTo n one a).getLsbD j = (decide (127 < j + n) && a.getLsbD j) := by
  induction n with
  | zero => rw [mulTo]; simp; omega
  | succ n ih =>
    rw [mulTo, BitVec.getLsbD_xor, ih (by omega), base n (by omega), pick, co]
    by_cases h : a.getLsbD (127 - n)
    · rw [if_pos h, BitVec.getLsbD_twoPow]
      by_cases hjn : 127 - n = j
      · subst hjn
        rw [h]
        simp [show ¬ 127 < 127 - n + n by omega, show 127 < 127 - n + (n + 1) by omega, show 127 - n < 128 by omega]
      · by_cases h2 : 127 < j + n
        · simp [hjn, h2, show 127 < j + (n + 1) by omega]
        · simp [hjn, h2, show ¬ 127 < j + (n + 1) by omega]
    · rw [if_neg h]
      by_cases hjn : 127 - n = j
      · subst hjn
        simp at h
        simp [h]
      · by_cases h2 : 127 < j + n
        · simp [h2, show 127 < j + (n + 1) by omega]
        · simp [h2, show ¬ 127 < j + (n + 1) by omega]
theorem one_mul (a : B) : mul one a = a := by
  apply BitVec.eq_of_getLsbD_eq
  intro j hj
  rw [mul, mulTo_one_bit 128 (by omega) a j hj]
  simp [show 127 < j + 128 by omega]
/-- What holds of 0 and 1, and is kept by XOR and by 'times x', holds of all. -/
theorem gen {P : B → Prop} (h0 : P 0#128) (h1 : P one) (hx : ∀ a b, P a → P b → P (a ^^^ b)) (hu : ∀ a, P a → P (up a)) (a : B) : P a := by
  have hN : ∀ n, P (upN n one) := by
    intro n
    induction n with
    | zero => exact h1
    | succ n ih => exact hu _ ih
  have : ∀ n, P (mulTo n one a) := by
    intro n
    induction n with
    | zero => exact h0
    | succ n ih =>
      refine hx _ _ ih ?_
      cases co a n
      · exact h0
      · exact hN n
  have h := this 128
  rwa [show mulTo 128 one a = a from one_mul a] at h
theorem mul_one (a : B) : mul a one = a := by
  refine gen (P := fun a => mul a one = a) (mul_zero_left _) (one_mul _) (fun a b ha hb => ?_) (fun a ha => ?_) a
  · rw [mul_xor_left, ha, hb]
  · rw [mul_up, ha]
theorem mul_up_right (a b : B) : mul a (up b) = up (mul a b) := by
  refine gen (P := fun a => mul a (up b) = up (mul a b)) ?_ ?_ (fun a c ha hc => ?_) (fun a ha => ?_) a
  · rw [mul_zero_left, mul_zero_left, up_zero]
  · rw [one_mul, one_mul]
  · rw [mul_xor_left, ha, hc, mul_xor_left, up_xor]
  · rw [mul_up, ha, mul_up]
theorem mul_comm (a b : B) : mul a b = mul b a := by
  refine gen (P := fun b => mul a b = mul b a) ?_ ?_ (fun b c hb hc => ?_) (fun b hb => ?_) b
  · rw [mul_zero_left, mul_zero_right]
  · rw [one_mul, mul_one]
  · rw [mul_xor_left, mul_xor_right, hb, hc]
  · rw [mul_up, mul_up_right, hb]
theorem mul_assoc (a b c : B) : mul (mul a b) c = mul a (mul b c) := by
  refine gen (P := fun a => mul (mul a b) c = mul a (mul b c)) ?_ ?_ (fun a d ha hd => ?_) (fun a ha => ?_) a
  · rw [mul_zero_left, mul_zero_left, mul_zero_left]
  · rw [one_mul, one_mul]
  · rw [mul_xor_left, mul_xor_left, mul_xor_left, ha, hd]
  · rw [mul_up, mul_up, mul_up, ha]
def sq (a : B) : B := mul a a
theorem sq_xor (a b : B) : sq (a ^^^ b) = sq a ^^^ sq b := by
  rw [sq, mul_xor_left, mul_xor_right, mul_xor_right, mul_comm b a, show ∀ p q r : B, (p ^^^ q) ^^^ (q ^^^ r) = p ^^^ r from fun p q r => by
    rw [BitVec.xor_assoc, ← BitVec.xor_assoc q q r, BitVec.xor_self, BitVec.zero_xor]]
  rfl
theorem sq_zero : sq 0#128 = 0#128 := mul_zero_left _
theorem sq_one : sq one = one := one_mul _
theorem sq_mul (a b : B) : sq (mul a b) = mul (sq a) (sq b) := by
  unfold sq
  rw [mul_assoc, ← mul_assoc b a b, mul_comm b a, mul_assoc a b b, ← mul_assoc a a]
def sqN : Nat → B → B
  | 0, a => a
  | n + 1, a => sq (sqN n a)
theorem sqN_xor (n : Nat) (a b : B) : sqN n (a ^^^ b) = sqN n a ^^^ sqN n b := by
  induction n with
  | zero => rfl
  | succ n ih => rw [sqN, ih, sq_xor]; rfl
theorem sqN_zero (n : Nat) : sqN n 0#128 = 0#128 := by
  induction n with
  | zero => rfl
  | succ n ih => rw [sqN, ih, sq_zero]
theorem sqN_one (n : Nat) : sqN n one = one := by
  induction n with
  | zero => rfl
  | succ n ih => rw [sqN, ih, sq_one]
theorem sqN_mul (n : Nat) (a b : B) : sqN n (mul a b) = mul (sqN n a) (sqN n b) := by
  induction n with
  | zero => rfl
  | succ n ih => rw [sqN, ih, sq_mul]; rfl
/-- A sum of what f says, at the places where x has a one. -/
def lin (f : Nat → B) : Nat → B → B
  | 0, _ => 0#128
  | n + 1, x => lin f n x ^^^ pick (co x n) (f n)
theorem lin_xor (f : Nat → B) (n : Nat) (x y : B) : lin f n (x ^^^ y) = lin f n x ^^^ lin f n y := by
  induction n with
  | zero => simp [lin]
  | succ n ih => rw [lin, ih, co_xor, pick_bit, xor4]; rfl
theorem lin_zero (f : Nat → B) (n : Nat) : lin f n 0#128 = 0#128 := by
  induction n with
  | zero => rfl
  | succ n ih => rw [lin, ih, co_zero]; simp [pick]
theorem additive (F : B → B) (h0 : F 0#128 = 0#128) (hx : ∀ a b, F (a ^^^ b) = F a ^^^ F b) (a : B) : F a = lin (fun i => F (upN i one)) 128 a := by
  have : ∀ n, F (mulTo n one a) = lin (fun i => F (upN i one)) n a := by
    intro n
    induction n with
    | zero => exact h0
    | succ n ih =>
      rw [mulTo, hx, ih, lin]
      congr 1
      cases co a n
      · exact h0
      · rfl
  have h := this 128
  rwa [show mulTo 128 one a = a from one_mul a] at h
theorem lin_congr {f g : Nat → B} (n : Nat) (h : ∀ i, i < n → f i = g i) (x : B) : lin f n x = lin g n x := by
  induction n with
  | zero => rfl
  | succ n ih => rw [lin, ih fun i hi => h i (by omega), h n (by omega)]; rfl
theorem additive_eq {F G : B → B} (hF0 : F 0#128 = 0#128) (hF : ∀ a b, F (a ^^^ b) = F a ^^^ F b) (hG0 : G 0#128 = 0#128) (hG : ∀ a b, G (a ^^^ b) = G a ^^^ G b) (h : ∀ i, i < 128 → F (upN i one) = G (upN i one)) (a : B) : F a = G a := by
  rw [additive F hF0 hF, additive G hG0 hG]
  exact lin_congr 128 h a
-- the same on numbers, for the kernel
def linR : Nat → List Nat → Nat → Nat
  | n + 1, c :: l, x => Nat.xor (linR n l x) (cond (Nat.testBit x (127 - n)) c 0)
  | _, _, _ => 0
def upto (f : Nat → B) : Nat → List Nat
  | 0 => []
  | n + 1 => (f n).toNat :: upto f n
theorem lin_toNat (f : Nat → B) (n : Nat) (x : B) : (lin f n x).toNat = linR n (upto f n) x.toNat := by
  induction n with
  | zero => rfl
  | succ n ih =>
    rw [lin, BitVec.toNat_xor, ih, upto, linR]
    show (_ : Nat) ^^^ (_ : Nat) = (_ : Nat) ^^^ (_ : Nat)
    congr 1
    rw [pick, co, BitVec.getLsbD]
    cases x.toNat.testBit (127 - n) <;> rfl
def upR (x : Nat) : Nat := Nat.xor (x >>> 1) (cond (Nat.testBit x 0) 299076299051606071403356588563077529600 0)
theorem up_toNat (x : B) : (up x).toNat = upR x.toNat := by
  rw [up_eq, BitVec.toNat_xor, BitVec.toNat_ushiftRight, upR]
  show (_ : Nat) ^^^ (_ : Nat) = (_ : Nat) ^^^ (_ : Nat)
  congr 1
  rw [pick, BitVec.getLsbD]
  cases x.toNat.testBit 0 <;> rfl
def S : List Nat := [305763977405398929388903867835113013251, 37384537381450758925419573570384691214, 149538149525803035701678294281538764856, 225, 900, 3600, 14400, 57600, 230400, 921600, 3686400, 14745600, 58982400, 235929600, 943718400, 3774873600, 15099494400, 60397977600, 241591910400, 966367641600, 3865470566400, 15461882265600, 61847529062400, 247390116249600, 989560464998400, 3958241859993600, 15832967439974400, 63331869759897600, 253327479039590400, 1013309916158361600, 4053239664633446400, 16212958658533785600, 64851834634135142400, 259407338536540569600, 1037629354146162278400, 4150517416584649113600, 16602069666338596454400, 66408278665354385817600, 265633114661417543270400, 1062532458645670173081600, 4250129834582680692326400, 17000519338330722769305600, 68002077353322891077222400, 272008309413291564308889600, 1088033237653166257235558400, 4352132950612665028942233600, 17408531802450660115768934400, 69634127209802640463075737600, 278536508839210561852302950400, 1114146035356842247409211801600, 4456584141427368989636847206400, 17826336565709475958547388825600, 71305346262837903834189555302400, 285221385051351615336758221209600, 1140885540205406461347032884838400, 4563542160821625845388131539353600, 18254168643286503381552526157414400, 73016674573146013526210104629657600, 292066698292584054104840418518630400, 1168266793170336216419361674074521600, 4673067172681344865677446696298086400, 18692268690725379462709786785192345600, 74769074762901517850839147140769382400, 
  299076299051606071403356588563077529600, 2, 8, 32, 128, 512, 2048, 8192, 32768, 131072, 524288, 2097152, 8388608, 33554432, 134217728, 536870912, 2147483648, 8589934592, 34359738368, 137438953472, 549755813888, 2199023255552, 8796093022208, 35184372088832, 140737488355328, 562949953421312, 2251799813685248, 9007199254740992, 36028797018963968, 144115188075855872, 576460752303423488, 2305843009213693952, 9223372036854775808, 36893488147419103232, 147573952589676412928, 590295810358705651712, 2361183241434822606848, 9444732965739290427392, 37778931862957161709568, 151115727451828646838272, 604462909807314587353088, 2417851639229258349412352, 9671406556917033397649408, 38685626227668133590597632, 154742504910672534362390528, 618970019642690137449562112, 2475880078570760549798248448, 9903520314283042199192993792, 39614081257132168796771975168, 158456325028528675187087900672, 633825300114114700748351602688, 2535301200456458802993406410752, 10141204801825835211973625643008, 40564819207303340847894502572032, 162259276829213363391578010288128, 649037107316853453566312041152512, 2596148429267413814265248164610048, 10384593717069655257060992658440192, 41538374868278621028243970633760768, 166153499473114484112975882535043072, 664613997892457936451903530140172288, 2658455991569831745807614120560689152, 10633823966279326983230456482242756608, 42535295865117307932921825928971026432, 170141183460469231731687303715884105728]
def chkS : List Nat → Bool
  | [] => true
  | [a] => a == 170141183460469231731687303715884105728
  | a :: b :: l => a == upR (upR b) && chkS (b :: l)
theorem chkS_ok : ∀ (n : Nat) (l : List Nat), l.length = n → chkS l = true → l = upto (fun i => upN (2 * i) one) n
  | 0, [], _, _ => rfl
  | 1, [a], _, h => by
    have h : a = 170141183460469231731687303715884105728 := by simpa [chkS] using h
    rw [h]; rfl
  | n + 2, a :: b :: l, hl, h => by
    rw [chkS, Bool.and_eq_true] at h
    have ih := chkS_ok (n + 1) (b :: l) (by simpa using hl) h.2
    rw [ih, upto]
    congr 1
    have ha : a = upR (upR b) := by simpa using h.1
    have hb : b = (upN (2 * n) one).toNat := by rw [upto] at ih; injection ih
    rw [ha, hb, ← up_toNat, ← up_toNat]
    rfl
  | 0, _ :: _, hl, _ => by simp at hl
  | n + 1, [], hl, _ => by simp at hl
  | n + 2, [_], hl, _ => by simp at hl
theorem S_ok : S = upto (fun i => upN (2 * i) one) 128 := chkS_ok 128 S (by decide +kernel) (by decide +kernel)
theorem sq_base (i : Nat) : sq (upN i one) = upN (2 * i) one := by
  have : ∀ n x, mul (upN n one) x = upN n x := by
    intro n x
    induction n with
    | zero => exact one_mul x
    | succ n ih => rw [upN, mul_up, ih]; rfl
  rw [sq, this, ← upN_add, Nat.two_mul]
theorem sq_lin (x : B) : sq x = lin (fun i => upN (2 * i) one) 128 x := by
  rw [additive sq sq_zero sq_xor]
  exact lin_congr 128 (fun i _ => sq_base i) x
theorem sq_toNat (x : B) : (sq x).toNat = linR 128 S x.toNat := by rw [sq_lin, lin_toNat, S_ok]
def chain : List Nat := [85070591730234615865843651857942052864, 42535295865117307932921825928971026432, 10633823966279326983230456482242756608, 664613997892457936451903530140172288, 2596148429267413814265248164610048, 39614081257132168796771975168, 9223372036854775808, 299076299051606071403356588563077529600, 223320687885582936303096647119756328960, 181439622058466316765484364476618637312, 170808393606790959443136713929011494912, 170143779648512580402633737760820723712, 170141183500083312998042844553285730304, 128935115591136839677961803087095005184, 26521923513571051041719120380595011584, 2713827814269182967778813927160283136, 19892309668726792795704411864237637640, 299897182589127159334264933479155400801, 159959758286485747050506419494376347345, 60525571083703940089607738420903979245, 209028883661647972087190873557067101568, 244050288576999060854378104821219929480, 237124357734750947154885079710004979137, 241433926662288477711420685110953489857, 244676285958628288050097968055285260259, 207624115730074607518965360287154315741, 45542536947308703482228433553521892404, 196875341648970848998312455873843130148, 268802494694071371274580153178105082024, 203098531765952221901263434944936830931, 89635207793561493853031727954670226635, 17635536657554160223891345761552251654, 112489354486133924937594606953927062558, 103542367381657779604032134892329681779, 19099574584433948515609566233580374867, 62115640240044381482841550280024960971, 50391228177221979819227125881791319300, 
  163695713725096451390993957098536584760, 41734415099232896947411929953982010711, 234562838271090350528670298339903111163, 96139727577274542912306893714895809048, 28368503231412555867187261962821942245, 203416903988108335017923413065992258531, 214259016414980319051799350134543084407, 73761869416664513792330957753545523659, 24632501774629228702992643922598158118, 113456367860289333607009297114367807630, 160653902476767024414754363815833781237, 254556726520323479364746206855480305863, 4526227804035031471510524530990904287, 134786544889666418473682136460080270514, 291303763298723517696563179989188587186, 139812049077265991715376779331566419600, 260696688444144022815847602138927665670, 332355165341978746073769615818200980028, 317717234933355194415885652434082185071, 274610808979437739965964759769346097198, 28801240844297479428334315665000247021, 229841481223330373219039180653320414504, 140375587621047260250014972709801025785, 45391486184925167126930174384492543006, 123384984270966172455561567439734926201, 321794773840327928520107016027662330812, 70861984667100364040012540112209736303, 148340141898206687063724843373059155590, 221090557989910989731917926507314198846, 82107999243414323334944566005053956931, 54693193818181484431854231401205703879, 114536429382317831486454820622538248701, 115564013791287421977695069983604732462, 228926611396314964875483011635444102383, 74321643873517566600337472819924213644, 202229157046156339513618629722341687123, 
  157409786558764528257684997350612823395, 294563800109893142238943126137925063391, 260885161595022357435290198221328107578, 251031254701039333738288871179620003195, 93335358315670370022835900135914926392, 37022851862275889642258560040094869845, 157396171043600723384219653110421305181, 125152375311858254124736471056591340958, 204118166209598140060728681112589250131, 216285818026694108828300809445219224393, 244033976791019852612000492304906626208, 124253523478711657314458879051421582746, 293616368445771820056566621625277032043, 186639441330219146939608000567819265044, 37660355283750314002486891758976393534, 128624545538626592230258248048941663049, 46064705648526900308498297178837823146, 260036059617357365198688971228453385693, 291073779213099574970310706157201503772, 310785363655102026426914113103925009399, 272506523232356647620379317271510663777, 226218601711134272319338586873534916345, 247103177204134515436166145119768316982, 296059664219031399650613090778401687298, 177125429678148108093716318237016710788, 56547780582645960279259354298804941592, 83593973713936815885639057414611377989, 226778970597582024864124484835733948113, 191022259757708288983048059641732530789, 36571037404758589115503605558346024163, 33873532655115029667423043523058474335, 133442055764004579282253164311215922968, 269156978868230004550242805540229117255, 263077746039643153986979754687578242813, 167997739037989486942123477009247278, 245359703656536202643261748345171078861, 
  319669061538528860558562957135884659632, 93889542977846094186452460275144478876, 110569990996931783534670918714759856375, 227500060518238923954784790963950870243, 99606112796630066198039008929586982741, 174405506854454285586332880354897487229, 30197492982161167704480518383037698446, 247147745240409908531404287514350405079, 71492541200904486072911206743184881241, 73015403472221726317851518097686579468, 216919812705488069028661448664747747067, 209898397545949153745892400055909254160, 128865345721593477062749972881714209158, 220227872485849155213274304514117291316, 34003972662229264603835496269624822572, 98297600919465554377191492341797370083, 71019247396963060562882697576803300823, 120474473878528672766517451866316838489, 50130884412459684338974012517024680228, 85070591730234615865843651857942052864]
def chkC : List Nat → Bool
  | a :: b :: l => linR 128 S a == b && chkC (b :: l)
  | _ => true
theorem chkC_ok : ∀ (l : List Nat) (a : Nat) (x : B), chkC (a :: l) = true → x.toNat = a → ∀ n, n ≤ l.length → (a :: l)[n]? = some (sqN n x).toNat
  | _, a, x, _, hx, 0, _ => by rw [sqN, hx]; rfl
  | b :: l, a, x, h, hx, n + 1, hn => by
    rw [chkC, Bool.and_eq_true] at h
    have hb : linR 128 S a = b := by simpa using h.1
    have h2 := chkC_ok l b (sq x) h.2 (by rw [sq_toNat, hx, hb]) n (by simpa using hn)
    rw [show sqN (n + 1) x = sqN n (sq x) from by
      clear h2 hn
      induction n with
      | zero => rfl
      | succ n ih => rw [sqN, ih]; rfl]
    rw [← h2]; rfl
  | [], _, _, _, _, n + 1, hn => by simp at hn
def X : B := up one
theorem sqN_of (a : Nat) (l : List Nat) (h : chkC (a :: l) = true) (hl : l.length = 128) (h0 : X.toNat = a) (h1 : (a :: l)[128]? = some X.toNat) : sqN 128 X = X := by
  have h := chkC_ok l a X h h0 128 (by omega)
  have h2 := Option.some.inj (h1.symm.trans h)
  exact (BitVec.eq_of_toNat_eq h2).symm
theorem sqN_if (c : List Nat) (h : chkC c = true) (hl : c.length = 129) (h0 : c[0]? = some X.toNat) (h1 : c[128]? = some X.toNat) : sqN 128 X = X := by
  rcases c with _ | ⟨a, l⟩
  · simp at hl
  · exact sqN_of a l h (by simpa using hl) (by simpa using h0.symm) h1
theorem sqN_X : sqN 128 X = X := sqN_if chain (by decide +kernel) (by decide +kernel) (by decide +kernel) (by decide +kernel)
theorem up_X (a : B) : up a = mul X a := by rw [X, mul_up, one_mul]
theorem sqN_all (a : B) : sqN 128 a = a := by
  refine gen (P := fun a => sqN 128 a = a) (sqN_zero _) (sqN_one _) (fun a b ha hb => ?_) (fun a ha => ?_) a
  · rw [sqN_xor, ha, hb]
  · rw [up_X, sqN_mul, sqN_X, ha]
def K : List Nat := [0, 6161591008139076202154902373133594561, 71430717218983613641036104277415506289, 87518597585245962833849474628053070758, 72921817864677867521778898634038080609, 163309321578052146879237778733101511783, 126814247099887467207929949960147586332, 133487668004820722767044853458355047125, 108887185710678174598840578861931466132, 72978216601350599296199603180564021825, 126976600203468727039316187211004055892, 49689517519420395515082114066310337331, 12764899024296983899235621676887115841, 59792954277794326371429463258526948146, 275464514806027128612938827324864, 33882886127255646541338116557250298163, 133385434108064708788808215410435911893, 153238470225796905537047657204766862374, 127777348636302309636952298273557535380, 58594334107495617071392172125656399538, 5725366257701666555538562805218717057, 159324042485362592547018579093184240551, 149021274876537960721224429182834492454, 94333773739946854309780815578084996199, 161752945482599484730126084874801441767, 115575792119390728221592460023876181333, 133436244703473040169882794575366898389, 34751610155981195849944733847405496627, 100972845268357601278728964017462078439, 44935323831972008745566419208193456946, 132003651752985294974180122299820886164, 45594221442569777339127844318073854322, 100983558286137050684044238585428660711, 140308235276559149970208740923126577813, 92325303522414418149753570460923091879, 26944628100264108509229864938392397555, 81071795988965022717357904530596407232, 58275656592719279154056000246173111091, 
  51613027339492204128265575524803459891, 142140898696765075202304690604976981845, 53639910565545342273528145980335791795, 4726979706490419237355323591502507968, 161542955870533464563010084267448332775, 65334779303751560239471195525024588352, 122557457634345817322758110469731963540, 79569572988994598121356082874814992321, 9537274821874957483351388617584152641, 109427184872331881977228478262674814292, 96504253903287235160744645914913229863, 35809052500294759256374056413191545715, 63089105448741488643398279942380763954, 84108490886122099842324906724524496768, 161537358671016203777973217828391545831, 49921000058860506912943830473554996979, 113870918609522322281985099445019275925, 45994406431766860863727072382817147250, 6116654749483988959971426010360459777, 88394181539591460295416373139500891046, 93226277353508642900164249188457535015, 123506241354959402090274531190302866772, 72992884249465865451566362034747193217, 123492369307601207700488716387690115284, 67288019353279926038130604499846823936, 96617416833907240315124182200439430055, 6161591008139076220601646446843146177, 87518597585245962796955986480633967526, 163309321578052146805450802438263305319, 133487668004820722619470900868678634197, 72978216601350599591347508359916847681, 49689517519420396105377924425015989043, 59792954277794325190837842541115644722, 33882886127255648902521357992072905011, 153238470225796900814681174335121648678, 58594334107495626516125137864946826930, 159324042485362573657552647614603385767, 
  94333773739946892088712678535246705767, 115575792119390803779456185938199600469, 34751610155981346965672185676052334899, 44935323831971706514111515550899780402, 45594221442570381802037651632661207410, 140308235276560358896028355552301283989, 26944628100266526360869094196741809907, 58275656592714443450777541729474286387, 142140898696755403795747773571579332437, 4726979706471076424241489524707209152, 65334779303712874613243527391433990720, 79569572989071969373811419141996187585, 109427184872177139472317805728312423764, 35809052500604244266195401481916326771, 84108490886741069861967596861974058880, 49921000057622566873658450198655872755, 45994406429290980785156311833018898802, 88394181544543220452557894239097387942, 123506241345055881775991488991109872980, 123492369287794167071922631989304127700, 96617416873521321572256350997211405223, 87518597506017800282691648887090017190, 133487668163277047647999576055766534869, 49689517202507746048320574050840187699, 33882886761080949016636058740424507699, 58594332839845026287895736368243621554, 94333771204645691632253875541840295015, 34751615226583747878589791662865156403, 45594211301365579976202439659035564402, 26944648382676130012539518143993095923, 142140858131936196492406925677076760405, 65334698174074460006561831602428846656, 109427022612900310258954414150302135636, 84108166368187411435240813705953482624, 45993757392183663931702745520977746290, 123504943270841248069084356367027567956, 96614820725092054158442085749046795175, 
  133492860460135582475628106552095754965, 33893271354798018671893119733082947891, 94354540392079830942767997527157175399, 45552672926497301355174195688401803634, 142223934881672753734463413618344281941, 109593176112373424743067390032837178708, 46326064391129892899928697286047832434, 95950206727199596221990182218906622887, 32564043359013102798989312672802603315, 42894216934927469609366581567841114482, 114910088095513088234682618273958557012, 85316382760920269238759725736663866279, 64161864867486123575827494532326627698, 127851678626037577171681551665634892711, 42781086895802961305837899807692839847, 22349210433241643211303706255459310228]
def Kf (i : Nat) : B := BitVec.ofNat 128 (K.getD (127 - i) 0)
theorem K_ok : upto Kf 128 = K := by decide +kernel
def chkK : Nat → Nat → List Nat → Bool
  | n + 1, b, s :: l => (linR 128 K (Nat.xor s b) == b) && chkK n (b * 2) l
  | _, _, _ => true
theorem chkK_ok : ∀ (n : Nat) (f : Nat → B) (b : Nat), chkK n b (upto f n) = true → ∀ i, i < n → linR 128 K (Nat.xor (f i).toNat (b * 2 ^ (n - 1 - i))) = b * 2 ^ (n - 1 - i)
  | n + 1, f, b, h, i, hi => by
    rw [upto, chkK, Bool.and_eq_true] at h
    rcases Nat.lt_or_ge i n with hlt | hge
    · have := chkK_ok n f (b * 2) h.2 i hlt
      rwa [Nat.mul_assoc, ← Nat.pow_succ', show (n - 1 - i).succ = n + 1 - 1 - i by omega] at this
    · have : i = n := by omega
      subst this
      have := h.1
      simpa using this
theorem K_base (i : Nat) (h0 : 0 < i) (h : i < 128) : lin Kf 128 (sq (upN i one) ^^^ upN i one) = upN i one := by
  apply BitVec.eq_of_toNat_eq
  rw [lin_toNat, K_ok, BitVec.toNat_xor, sq_base, base i h, BitVec.toNat_twoPow_of_lt (by omega)]
  have hc : chkK 127 1 (upto (fun i => upN (2 * (i + 1)) one) 127) = true := by
    have hs : upto (fun i => upN (2 * (i + 1)) one) 127 = S.take 127 := by
      rw [S_ok]
      have : ∀ n, upto (fun i => upN (2 * (i + 1)) one) n = (upto (fun i => upN (2 * i) one) (n + 1)).take n := by
        intro n
        induction n with
        | zero => rfl
        | succ n ih =>
          rw [upto, ih]
          conv => rhs; rw [upto, List.take_succ_cons]
      exact this 127
    rw [hs]
    decide +kernel
  have := chkK_ok 127 _ 1 hc (i - 1) (by omega)
  rw [show i - 1 + 1 = i by omega, Nat.one_mul, show 127 - 1 - (i - 1) = 127 - i by omega] at this
  exact this
/-- What is its own square is 0 or 1. -/
theorem idem (e : B) (h : sq e = e) : e = 0#128 ∨ e = one := by
  have hF : ∀ a, lin Kf 128 (sq a ^^^ a) = a ^^^ pick (co a 0) one := by
    refine additive_eq (F := fun a => lin Kf 128 (sq a ^^^ a)) (G := fun a => a ^^^ pick (co a 0) one) ?_ (fun a b => ?_) rfl (fun a b => ?_) (fun i hi => ?_)
    · show lin Kf 128 (sq 0#128 ^^^ 0#128) = _
      rw [sq_zero, BitVec.xor_self, lin_zero]
    · show lin Kf 128 (sq (a ^^^ b) ^^^ (a ^^^ b)) = _
      rw [sq_xor, xor4, lin_xor]
    · show (a ^^^ b) ^^^ pick (co (a ^^^ b) 0) one = _
      rw [co_xor, pick_bit, xor4]
    · show lin Kf 128 (sq (upN i one) ^^^ upN i one) = upN i one ^^^ pick (co (upN i one) 0) one
      rcases Nat.eq_zero_or_pos i with rfl | h0
      · rw [upN, sq_one, BitVec.xor_self, lin_zero]; rfl
      · rw [K_base i h0 hi, co, base i hi, BitVec.getLsbD_twoPow]
        simp [pick, show ¬ 127 - i = 127 by omega]
  have h1 := hF e
  rw [h, BitVec.xor_self, lin_zero] at h1
  cases hc : co e 0
  · rw [hc, pick, if_neg (by decide), BitVec.xor_zero] at h1
    exact .inl h1.symm
  · rw [hc, pick, if_pos rfl] at h1
    refine .inr ?_
    have := congrArg (· ^^^ one) h1
    simp only [BitVec.zero_xor] at this
    rw [BitVec.xor_assoc, BitVec.xor_self, BitVec.xor_zero] at this
    exact this.symm
def prodTo : Nat → B → B
  | 0, _ => one
  | n + 1, a => mul (prodTo n a) (sqN n a)
theorem prodTo_mul (n : Nat) (a : B) : mul (prodTo n a) a = sqN n a := by
  induction n with
  | zero => exact one_mul a
  | succ n ih => rw [prodTo, mul_assoc, mul_comm (sqN n a) a, ← mul_assoc, ih]; rfl
theorem prodTo_has (n : Nat) (a : B) : ∃ f, prodTo (n + 1) a = mul a f := by
  induction n with
  | zero => exact ⟨one, by rw [prodTo, prodTo, one_mul, mul_one]; rfl⟩
  | succ n ih =>
    obtain ⟨f, hf⟩ := ih
    exact ⟨mul f (sqN (n + 1) a), by rw [prodTo, hf, mul_assoc]⟩
/-- There are no zero divisors. -/
theorem no_zero (a b : B) (h : mul a b = 0#128) : a = 0#128 ∨ b = 0#128 := by
  obtain ⟨f, hf⟩ := prodTo_has 127 a
  have ha := prodTo_mul 128 a
  rw [sqN_all] at ha
  have he : sq (prodTo 128 a) = prodTo 128 a := by
    rw [sq]
    conv => lhs; rhs; rw [hf]
    rw [← mul_assoc, ha, ← hf]
  rcases idem _ he with h0 | h1
  · left; rw [h0, mul_zero_left] at ha; exact ha.symm
  · right
    rw [hf] at h1
    rw [← one_mul b, ← h1, mul_assoc, mul_comm f b, ← mul_assoc, h, mul_zero_left]
end Gf
end Go.Proofs.YthigbggacgiamaaDoor

namespace Go.Proofs.YthigbggacgiamaaDoor
open Go.RowKit
namespace Gcm
/-- What the program's product carries from round to round: x, y, what is made. -/
structure T where
  xh : UInt64
  xl : UInt64
  yh : UInt64
  yl : UInt64
  oh : UInt64
  ol : UInt64
def tStep (i : Nat) (s : T) : T :=
  let bit := if i < 64 then s.yh >>> 63 else s.yl >>> 63
  { xh := s.xh >>> 1 ^^^ (-(s.xl &&& 1) &&& 16212958658533785600), xl := s.xl >>> 1 ||| s.xh <<< 63
    yh := if i < 64 then s.yh <<< 1 else s.yh, yl := if i < 64 then s.yl else s.yl <<< 1
    oh := s.oh ^^^ (s.xh &&& -bit), ol := s.ol ^^^ (s.xl &&& -bit) }
def tRun (x y : UInt64 × UInt64) (k : Nat) : T := iter tStep k ⟨x.1, x.2, y.1, y.2, 0, 0⟩
def times (x y : UInt64 × UInt64) : UInt64 × UInt64 := ((tRun x y 128).oh, (tRun x y 128).ol)
def ofStep (b : List UInt8) (i : Nat) (s : UInt64 × UInt64) : UInt64 × UInt64 := (s.1 <<< 8 ||| (nth b i).toUInt64, s.2 <<< 8 ||| (nth b (i + 8)).toUInt64)
def of (b : List UInt8) : UInt64 × UInt64 := iter (ofStep b) 8 (0, 0)
def bytesStep (x : UInt64 × UInt64) (i : Nat) (b : List UInt8) : List UInt8 := (b.set i (shr64 x.1 (56 - 8 * i)).toUInt8).set (i + 8) (shr64 x.2 (56 - 8 * i)).toUInt8
def bytes (x : UInt64 × UInt64) : List UInt8 := iter (bytesStep x) 8 (List.replicate 16 0)
theorem bytesStep_len (x : UInt64 × UInt64) (k : Nat) (b : List UInt8) : (iter (bytesStep x) k b).length = b.length := iter_keeps _ _ (fun k s => by simp [bytesStep]) k b
theorem bytes_len (x : UInt64 × UInt64) : (bytes x).length = 16 := (bytesStep_len _ _ _).trans List.length_replicate
/-- Two words as one polynomial. -/
def bv (x : UInt64 × UInt64) : Gf.B := x.1.toBitVec ++ x.2.toBitVec
theorem bv_bit (x : UInt64 × UInt64) (i : Nat) : (bv x).getLsbD i = if i < 64 then x.2.toBitVec.getLsbD i else x.1.toBitVec.getLsbD (i - 64) := by
  rw [bv, BitVec.getLsbD_append]
theorem bv_inj (x y : UInt64 × UInt64) (h : bv x = bv y) : x = y := by
  have h0 : ∀ i, (bv x).getLsbD i = (bv y).getLsbD i := fun i => by rw [h]
  have h1 : x.1.toBitVec = y.1.toBitVec := by
    apply BitVec.eq_of_getLsbD_eq
    intro i hi
    have := h0 (64 + i)
    rw [bv_bit, bv_bit, if_neg (show ¬ 64 + i < 64 by omega), if_neg (show ¬ 64 + i < 64 by omega), Nat.add_sub_cancel_left] at this
    exact this
  have h2 : x.2.toBitVec = y.2.toBitVec := by
    apply BitVec.eq_of_getLsbD_eq
    intro i hi
    have := h0 i
    rw [bv_bit, bv_bit, if_pos hi, if_pos hi] at this
    exact this
  exact Prod.ext (UInt64.eq_of_toBitVec_eq h1) (UInt64.eq_of_toBitVec_eq h2)
theorem neg_one (b : UInt64) (h : b = 0 ∨ b = 1) (x : UInt64) : x &&& -b = if b = 1 then x else 0 := by
  rcases h with rfl | rfl
  · show x &&& 0 = _; rw [UInt64.and_zero]; rfl
  · rw [if_pos rfl]; show x &&& 18446744073709551615 = x
    apply UInt64.eq_of_toBitVec_eq
    exact BitVec.and_allOnes
theorem top_bit (y : UInt64) : y >>> 63 = if y.toBitVec.getLsbD 63 then 1 else 0 := by
  apply UInt64.eq_of_toBitVec_eq
  apply BitVec.eq_of_getLsbD_eq
  intro i hi
  rw [UInt64.toBitVec_shiftRight]
  show (y.toBitVec >>> 63).getLsbD i = _
  rw [BitVec.getLsbD_ushiftRight]
  rcases Nat.eq_zero_or_pos i with rfl | h0
  · cases h : y.toBitVec.getLsbD 63 <;> simp [h]
  · rw [BitVec.getLsbD_of_ge _ _ (by omega)]
    cases h : y.toBitVec.getLsbD 63
    · simp
    · simp; omega
theorem low_bit (x : UInt64) : x &&& 1 = if x.toBitVec.getLsbD 0 then 1 else 0 := by
  apply UInt64.eq_of_toBitVec_eq
  apply BitVec.eq_of_getLsbD_eq
  intro i hi
  rw [UInt64.toBitVec_and, BitVec.getLsbD_and]
  rcases Nat.eq_zero_or_pos i with rfl | h0
  · cases h : x.toBitVec.getLsbD 0 <;> simp
  · have : (1 : UInt64).toBitVec.getLsbD i = false := by show (1#64).getLsbD i = false; simp; omega
    rw [this, Bool.and_false]
    cases h : x.toBitVec.getLsbD 0
    · simp
    · simp; omega
theorem bv_up (x : UInt64 × UInt64) : bv (x.1 >>> 1 ^^^ (-(x.2 &&& 1) &&& 16212958658533785600), x.2 >>> 1 ||| x.1 <<< 63) = Gf.up (bv x) := by
  have hm : -(x.2 &&& 1) &&& 16212958658533785600 = if x.2.toBitVec.getLsbD 0 then 16212958658533785600 else 0 := by
    rw [UInt64.and_comm, neg_one _ (by rw [low_bit]; cases x.2.toBitVec.getLsbD 0 <;> simp) _, low_bit]
    cases x.2.toBitVec.getLsbD 0 <;> simp
  rw [hm, Gf.up_eq]
  apply BitVec.eq_of_getLsbD_eq
  intro i hi
  rw [bv_bit, BitVec.getLsbD_xor, BitVec.getLsbD_ushiftRight, bv_bit, bv_bit, if_pos (show 0 < 64 by omega)]
  have hR : ∀ b : Bool, (Gf.pick b Gf.R).getLsbD i = (b && Gf.R.getLsbD i) := by intro b; cases b <;> simp [Gf.pick]
  rw [hR]
  by_cases h : i < 64
  · rw [if_pos h]
    have hr : Gf.R.getLsbD i = false := by
      have : ∀ j : Fin 64, Gf.R.getLsbD j.val = false := by decide +kernel
      exact this ⟨i, h⟩
    rw [hr, Bool.and_false, Bool.xor_false, UInt64.toBitVec_or, BitVec.getLsbD_or, UInt64.toBitVec_shiftRight, UInt64.toBitVec_shiftLeft]
    show ((x.2.toBitVec >>> 1).getLsbD i || (x.1.toBitVec <<< 63).getLsbD i) = _
    rw [BitVec.getLsbD_ushiftRight, BitVec.getLsbD_shiftLeft]
    by_cases h63 : i = 63
    · subst h63; simp
    · rw [if_pos (show 1 + i < 64 by omega)]; simp [h, show i < 63 by omega]
  · rw [if_neg h, if_neg (show ¬ 1 + i < 64 by omega), UInt64.toBitVec_xor, BitVec.getLsbD_xor, UInt64.toBitVec_shiftRight]
    show ((x.1.toBitVec >>> 1).getLsbD (i - 64) ^^ _) = _
    rw [BitVec.getLsbD_ushiftRight, show 1 + (i - 64) = 1 + i - 64 by omega]
    congr 1
    have hc : ∀ j : Fin 64, (16212958658533785600 : UInt64).toBitVec.getLsbD j.val = Gf.R.getLsbD (64 + j.val) := by decide +kernel
    have hi2 := hc ⟨i - 64, by omega⟩
    simp only at hi2
    rw [show 64 + (i - 64) = i by omega] at hi2
    cases x.2.toBitVec.getLsbD 0
    · simp
    · rw [if_pos rfl, hi2, Bool.true_and]
theorem bv_xor (x y : UInt64 × UInt64) : bv (x.1 ^^^ y.1, x.2 ^^^ y.2) = bv x ^^^ bv y := by
  apply BitVec.eq_of_getLsbD_eq
  intro i hi
  rw [bv_bit, BitVec.getLsbD_xor, bv_bit, bv_bit]
  by_cases h : i < 64
  · rw [if_pos h, if_pos h, if_pos h, UInt64.toBitVec_xor, BitVec.getLsbD_xor]
  · rw [if_neg h, if_neg h, if_neg h, UInt64.toBitVec_xor, BitVec.getLsbD_xor]
theorem bv_zero : bv (0, 0) = 0#128 := rfl
theorem bv_pick (b : UInt64) (c : Bool) (h : b = if c then 1 else 0) (x : UInt64 × UInt64) : bv (x.1 &&& -b, x.2 &&& -b) = Gf.pick c (bv x) := by
  have hb : b = 0 ∨ b = 1 := by rw [h]; cases c <;> simp
  rw [neg_one b hb, neg_one b hb, h]
  cases c
  · show bv (if (0 : UInt64) = 1 then x.1 else 0, if (0 : UInt64) = 1 then x.2 else 0) = 0#128
    rw [if_neg (by decide), if_neg (by decide)]; rfl
  · show bv (if (1 : UInt64) = 1 then x.1 else 0, if (1 : UInt64) = 1 then x.2 else 0) = bv x
    rw [if_pos rfl, if_pos rfl]
/-- What the product's rounds have made. -/
theorem tRun_is (x y : UInt64 × UInt64) : ∀ k, k ≤ 128 → bv ((tRun x y k).xh, (tRun x y k).xl) = Gf.upN k (bv x) ∧ bv ((tRun x y k).oh, (tRun x y k).ol) = Gf.mulTo k (bv x) (bv y) ∧
    (∀ i, k ≤ i → i < 64 → (tRun x y k).yh.toBitVec.getLsbD (63 - (i - k)) = y.1.toBitVec.getLsbD (63 - i)) ∧ (∀ i, 64 ≤ i → i < 128 → k ≤ i → (tRun x y k).yl.toBitVec.getLsbD (63 - (i - max k 64)) = y.2.toBitVec.getLsbD (127 - i))
  | 0, _ => ⟨rfl, bv_zero, fun i _ h => rfl, fun i h1 h2 _ => by show y.2.toBitVec.getLsbD _ = _; congr 1; omega⟩
  | k + 1, hk => by
    obtain ⟨h1, h2, h3, h4⟩ := tRun_is x y k (by omega)
    have e : tRun x y (k + 1) = tStep k (tRun x y k) := rfl
    rw [e]
    generalize tRun x y k = s at h1 h2 h3 h4
    have hbit : (if k < 64 then s.yh >>> 63 else s.yl >>> 63) = if Gf.co (bv y) k then 1 else 0 := by
      rw [Gf.co, bv_bit]
      by_cases h : k < 64
      · have := h3 k (Nat.le_refl _) h
        rw [Nat.sub_self] at this
        rw [if_pos h, if_neg (show ¬ 127 - k < 64 by omega), top_bit, this, show 127 - k - 64 = 63 - k by omega]
      · have := h4 k (by omega) (by omega) (Nat.le_refl _)
        rw [show k - max k 64 = 0 by omega] at this
        rw [if_neg h, if_pos (show 127 - k < 64 by omega), top_bit, this]
    refine ⟨?_, ?_, ?_, ?_⟩
    · have := bv_up (s.xh, s.xl)
      rw [h1] at this
      exact this
    · show bv (s.oh ^^^ (s.xh &&& -(if k < 64 then s.yh >>> 63 else s.yl >>> 63)), s.ol ^^^ (s.xl &&& -(if k < 64 then s.yh >>> 63 else s.yl >>> 63))) = _
      have := bv_xor (s.oh, s.ol) (s.xh &&& -(if k < 64 then s.yh >>> 63 else s.yl >>> 63), s.xl &&& -(if k < 64 then s.yh >>> 63 else s.yl >>> 63))
      rw [this, h2, bv_pick _ _ hbit (s.xh, s.xl), h1]
      rfl
    · intro i hi h
      show (if k < 64 then s.yh <<< 1 else s.yh).toBitVec.getLsbD _ = _
      rw [if_pos (show k < 64 by omega), UInt64.toBitVec_shiftLeft]
      show (s.yh.toBitVec <<< 1).getLsbD _ = _
      rw [BitVec.getLsbD_shiftLeft, ← h3 i (by omega) h]
      simp [show 63 - (i - (k + 1)) < 64 by omega, show ¬ 63 - (i - (k + 1)) < 1 by omega]
      congr 1; omega
    · intro i hi h h5
      show (if k < 64 then s.yl else s.yl <<< 1).toBitVec.getLsbD _ = _
      by_cases hk64 : k < 64
      · rw [if_pos hk64, ← h4 i hi h (by omega), show max (k + 1) 64 = max k 64 by omega]
      · rw [if_neg hk64, UInt64.toBitVec_shiftLeft]
        show (s.yl.toBitVec <<< 1).getLsbD _ = _
        rw [BitVec.getLsbD_shiftLeft, ← h4 i hi h (by omega)]
        simp [show 63 - (i - max (k + 1) 64) < 64 by omega, show ¬ 63 - (i - max (k + 1) 64) < 1 by omega]
        congr 1; omega
/-- The program's product is the field's. -/
theorem times_is (x y : UInt64 × UInt64) : bv (times x y) = Gf.mul (bv x) (bv y) := (tRun_is x y 128 (Nat.le_refl _)).2.1
-- bytes and words
theorem of_bits (b : List UInt8) : ∀ k, k ≤ 8 → (∀ j, (iter (ofStep b) k (0, 0)).1.toBitVec.getLsbD j = (decide (j < 8 * k) && (nth b (k - 1 - j / 8)).toBitVec.getLsbD (j % 8))) ∧
    (∀ j, (iter (ofStep b) k (0, 0)).2.toBitVec.getLsbD j = (decide (j < 8 * k) && (nth b (k + 7 - j / 8)).toBitVec.getLsbD (j % 8)))
  | 0, _ => ⟨fun j => by show (0#64).getLsbD j = _; simp, fun j => by show (0#64).getLsbD j = _; simp⟩
  | k + 1, hk => by
    obtain ⟨h1, h2⟩ := of_bits b k (by omega)
    have step : ∀ (s : UInt64) (x : UInt8) (j : Nat), (s <<< 8 ||| x.toUInt64).toBitVec.getLsbD j = ((decide (j < 64) && (!decide (j < 8) && s.toBitVec.getLsbD (j - 8))) || x.toBitVec.getLsbD j) := by
      intro s x j
      rw [UInt64.toBitVec_or, BitVec.getLsbD_or, UInt64.toBitVec_shiftLeft]
      show ((s.toBitVec <<< 8).getLsbD j || (x.toUInt64.toBitVec).getLsbD j) = _
      rw [BitVec.getLsbD_shiftLeft]
      rw [Bool.and_assoc]
      have e : x.toUInt64.toBitVec.getLsbD j = x.toBitVec.getLsbD j := by
        show (x.toBitVec.setWidth 64).getLsbD j = _
        rw [BitVec.getLsbD_setWidth]
        by_cases hj : j < 64
        · simp [hj]
        · rw [BitVec.getLsbD_of_ge x.toBitVec j (by omega)]; simp
      rw [e]
    refine ⟨fun j => ?_, fun j => ?_⟩
    · rw [iter, ofStep]
      dsimp only
      rw [step, h1]
      by_cases h8 : j < 8
      · rw [show j / 8 = 0 by omega, show j % 8 = j by omega]
        simp [h8, show j < 8 * (k + 1) by omega]
      · rw [BitVec.getLsbD_of_ge (nth b k).toBitVec j (by omega), show (j - 8) / 8 = j / 8 - 1 by omega, show (j - 8) % 8 = j % 8 by omega, show k - 1 - (j / 8 - 1) = k + 1 - 1 - j / 8 by omega]
        by_cases hj : j < 8 * (k + 1)
        · simp [h8, hj, show j < 64 by omega, show j - 8 < 8 * k by omega]
        · simp [h8, hj, show ¬ j - 8 < 8 * k by omega]
    · rw [iter, ofStep]
      dsimp only
      rw [step, h2]
      by_cases h8 : j < 8
      · rw [show j / 8 = 0 by omega, show j % 8 = j by omega]
        simp [h8, show j < 8 * (k + 1) by omega, show k + 1 + 7 = k + 8 by omega]
      · rw [BitVec.getLsbD_of_ge (nth b (k + 8)).toBitVec j (by omega), show (j - 8) / 8 = j / 8 - 1 by omega, show (j - 8) % 8 = j % 8 by omega, show k + 7 - (j / 8 - 1) = k + 1 + 7 - j / 8 by omega]
        by_cases hj : j < 8 * (k + 1)
        · simp [h8, hj, show j < 64 by omega, show j - 8 < 8 * k by omega]
        · simp [h8, hj, show ¬ j - 8 < 8 * k by omega]
/-- The polynomial of sixteen bytes. -/
def poly (b : List UInt8) : Gf.B := bv (of b)
/-- The coefficient of x^p is a bit of byte p / 8. -/
theorem poly_bit (b : List UInt8) (p : Nat) (hp : p < 128) : Gf.co (poly b) p = (nth b (p / 8)).toBitVec.getLsbD (7 - p % 8) := by
  obtain ⟨h1, h2⟩ := of_bits b 8 (Nat.le_refl _)
  rw [Gf.co, poly, bv_bit, of, h1, h2]
  by_cases h : 127 - p < 64
  · rw [if_pos h, show (8 + 7 - (127 - p) / 8) = p / 8 by omega, show (127 - p) % 8 = 7 - p % 8 by omega]
    simp [show 127 - p < 8 * 8 by omega]
  · rw [if_neg h, show (8 - 1 - (127 - p - 64) / 8) = p / 8 by omega, show (127 - p - 64) % 8 = 7 - p % 8 by omega]
    simp [show 127 - p - 64 < 8 * 8 by omega]
theorem poly_ext (x y : Gf.B) (h : ∀ p, p < 128 → Gf.co x p = Gf.co y p) : x = y := by
  apply BitVec.eq_of_getLsbD_eq
  intro i hi
  have := h (127 - i) (by omega)
  rw [Gf.co, Gf.co, show 127 - (127 - i) = i by omega] at this
  exact this
theorem byte_ext (x y : UInt8) (h : ∀ t, t < 8 → x.toBitVec.getLsbD t = y.toBitVec.getLsbD t) : x = y := by
  apply UInt8.eq_of_toBitVec_eq
  apply BitVec.eq_of_getLsbD_eq
  intro i hi
  exact h i hi
theorem poly_inj (a b : List UInt8) (ha : a.length = 16) (hb : b.length = 16) (h : poly a = poly b) : a = b := by
  apply Aes.nth_ext
  · rw [ha, hb]
  intro i hi
  rw [ha] at hi
  apply byte_ext
  intro t ht
  have h1 := poly_bit a (8 * i + (7 - t)) (by omega)
  have h2 := poly_bit b (8 * i + (7 - t)) (by omega)
  rw [show (8 * i + (7 - t)) / 8 = i by omega, show 7 - (8 * i + (7 - t)) % 8 = t by omega] at h1 h2
  rw [← h1, ← h2, h]
theorem shr64_byte (x : UInt64) (n t : Nat) (hn : n ≤ 56) (ht : t < 8) : (shr64 x n).toUInt8.toBitVec.getLsbD t = x.toBitVec.getLsbD (n + t) := by
  show ((shr64 x n).toBitVec.setWidth 8).getLsbD t = _
  rw [BitVec.getLsbD_setWidth]
  have e : (shr64 x n).toBitVec = x.toBitVec >>> n := by
    apply BitVec.eq_of_toNat_eq
    rw [BitVec.toNat_ushiftRight]
    show (UInt64.ofNat (x.toNat / 2 ^ min n 64)).toNat = x.toBitVec.toNat >>> n
    rw [Nat.min_eq_left (by omega), Nat.shiftRight_eq_div_pow]
    show (x.toNat / 2 ^ n) % 2 ^ 64 = x.toNat / 2 ^ n
    exact Nat.mod_eq_of_lt (Nat.lt_of_le_of_lt (Nat.div_le_self _ _) x.toNat_lt)
  rw [e, BitVec.getLsbD_ushiftRight]
  simp [ht]
theorem bytes_nth (x : UInt64 × UInt64) : ∀ k, k ≤ 8 → ∀ i, nth (iter (bytesStep x) k (List.replicate 16 0)) i = if i < k then (shr64 x.1 (56 - 8 * i)).toUInt8 else if 8 ≤ i ∧ i < 8 + k then (shr64 x.2 (56 - 8 * (i - 8))).toUInt8 else 0
  | 0, _, i => by
    rw [iter, if_neg (by omega), if_neg (by omega)]
    unfold nth
    rw [List.getD_eq_getElem?_getD, List.getElem?_replicate]
    split <;> rfl
  | k + 1, hk, i => by
    have hl : (iter (bytesStep x) k (List.replicate 16 0)).length = 16 := (bytesStep_len _ _ _).trans List.length_replicate
    rw [iter, bytesStep, Aes.nth_set _ _ _ _ (by rw [List.length_set, hl]; omega), Aes.nth_set _ _ _ _ (by rw [hl]; omega), bytes_nth x k (by omega) i]
    by_cases h1 : i = k + 8
    · subst h1; rw [if_pos rfl, if_neg (by omega), if_pos (by omega), show k + 8 - 8 = k by omega]
    · rw [if_neg h1]
      by_cases h2 : i = k
      · subst h2; rw [if_pos rfl, if_pos (by omega)]
      · rw [if_neg h2]
        by_cases h3 : i < k
        · rw [if_pos h3, if_pos (by omega)]
        · rw [if_neg h3, if_neg (show ¬ i < k + 1 by omega)]
          by_cases h4 : 8 ≤ i ∧ i < 8 + k
          · rw [if_pos h4, if_pos (by omega)]
          · rw [if_neg h4, if_neg (by omega)]
/-- Words that were bytes are those words. -/
theorem poly_bytes (x : UInt64 × UInt64) : poly (bytes x) = bv x := by
  apply poly_ext
  intro p hp
  rw [poly_bit _ _ hp, bytes, bytes_nth x 8 (Nat.le_refl _), Gf.co, bv_bit]
  by_cases h : p / 8 < 8
  · rw [if_pos h, if_neg (show ¬ 127 - p < 64 by omega), shr64_byte _ _ _ (by omega) (by omega), show 56 - 8 * (p / 8) + (7 - p % 8) = 127 - p - 64 by omega]
  · rw [if_neg h, if_pos (by omega), if_pos (show 127 - p < 64 by omega), shr64_byte _ _ _ (by omega) (by omega), show 56 - 8 * (p / 8 - 8) + (7 - p % 8) = 127 - p by omega]
theorem bytes_of (b : List UInt8) (h : b.length = 16) : bytes (of b) = b := poly_inj _ _ (bytes_len _) h (poly_bytes _)
theorem of_bytes (x : UInt64 × UInt64) : of (bytes x) = x := bv_inj _ _ (poly_bytes x)
/-- The product of two blocks. -/
def mul (a b : List UInt8) : List UInt8 := bytes (times (of a) (of b))
theorem mul_len (a b : List UInt8) : (mul a b).length = 16 := bytes_len _
theorem poly_mul (a b : List UInt8) : poly (mul a b) = Gf.mul (poly a) (poly b) := by rw [mul, poly_bytes, times_is]; rfl
end Gcm
end Go.Proofs.YthigbggacgiamaaDoor

namespace Go.Proofs.YthigbggacgiamaaDoor
namespace Cha
abbrev W := UInt32
def at_ (l : List W) (i : Nat) : W := l.getD i 0
/-- A word of four bytes, the lowest first: the first k of them. -/
def wordTo (b : List UInt8) : Nat → W
  | 0 => 0
  | k + 1 => wordTo b k ||| shl32 (nth b k).toUInt32 (8 * k)
def words (b : List UInt8) (n : Nat) : List W := (List.range n).map fun i => wordTo (b.drop (4 * i)) 4
theorem words_len (b : List UInt8) (n : Nat) : (words b n).length = n := by simp [words]
def rot (x : W) (n : Nat) : W := shl32 x n ||| shr32 x (32 - n)
def half (to by_ turned n : Nat) (s : List W) : List W :=
  let s1 := s.set to (at_ s to + at_ s by_)
  s1.set turned (rot (at_ s1 turned ^^^ at_ s1 to) n)
def quarter (a b c d : Nat) (s : List W) : List W := half c d b 7 (half a b d 8 (half c d b 12 (half a b d 16 s)))
def col (k : Nat) (s : List W) : List W := quarter k (k + 4) (k + 8) (k + 12) s
def diag (k : Nat) (s : List W) : List W := quarter k (4 + (k + 1) % 4) (8 + (k + 2) % 4) (12 + (k + 3) % 4) s
def double (_ : Nat) (s : List W) : List W := iter diag 4 (iter col 4 s)
def rounds (s : List W) : List W := iter double 10 s
def start (key : List UInt8) (count : W) (nonce : List UInt8) : List W := [0x61707865, 0x3320646e, 0x79622d32, 0x6b206574] ++ words key 8 ++ [count] ++ words nonce 3
def ended (s w : List W) : List UInt8 := (List.range 64).map fun i => (shr32 (at_ w (i / 4) + at_ s (i / 4)) (8 * (i % 4))).toUInt8
def block (key : List UInt8) (count : W) (nonce : List UInt8) : List UInt8 := ended (start key count nonce) (rounds (start key count nonce))
theorem block_len (key : List UInt8) (count : W) (nonce : List UInt8) : (block key count nonce).length = 64 := by simp [block, ended]
theorem start_len (key : List UInt8) (count : W) (nonce : List UInt8) : (start key count nonce).length = 16 := by simp [start, words_len]
theorem half_len (a b c n : Nat) (s : List W) : (half a b c n s).length = s.length := by simp [half]
theorem quarter_len (a b c d : Nat) (s : List W) : (quarter a b c d s).length = s.length := by simp [quarter, half_len]
theorem at_set (l : List W) (i j : Nat) (x : W) (hi : i < l.length) : at_ (l.set i x) j = if j = i then x else at_ l j := by
  unfold at_
  rw [List.getD_eq_getElem?_getD, List.getD_eq_getElem?_getD, List.getElem?_set]
  by_cases h : i = j
  · subst h; simp [hi]
  · rw [if_neg h, if_neg (fun e => h e.symm)]
theorem at_words (b : List UInt8) (n i : Nat) (hi : i < n) : at_ (words b n) i = wordTo (b.drop (4 * i)) 4 := by
  unfold at_ words
  rw [List.getD_eq_getElem?_getD, List.getElem?_map, List.getElem?_range hi]
  rfl
theorem eq_words (b : List UInt8) (n : Nat) (l : List W) (hl : l.length = n) (h : ∀ i, i < n → at_ l i = wordTo (b.drop (4 * i)) 4) : l = words b n := by
  apply List.ext_getElem
  · rw [hl, words_len]
  · intro i h1 h2
    have e1 := h i (by omega)
    have e2 := at_words b n i (by omega)
    unfold at_ at e1 e2
    rw [List.getD_eq_getElem?_getD, List.getElem?_eq_getElem h1] at e1
    rw [List.getD_eq_getElem?_getD, List.getElem?_eq_getElem h2] at e2
    exact e1.trans e2.symm
/-- The words as they come: k of them whole, of the next one q bytes. -/
def part (b : List UInt8) (n k q : Nat) : List W := (List.range n).map fun j => if j < k then wordTo (b.drop (4 * j)) 4 else if j = k then wordTo (b.drop (4 * j)) q else 0
theorem part_len (b : List UInt8) (n k q : Nat) : (part b n k q).length = n := by simp [part]
theorem at_map (f : Nat → W) (n i : Nat) (hi : i < n) : at_ ((List.range n).map f) i = f i := by
  unfold at_
  rw [List.getD_eq_getElem?_getD, List.getElem?_map, List.getElem?_range hi]
  rfl
theorem map_set (f g : Nat → W) (n i : Nat) (x : W) (hx : g i = x) (h : ∀ j, j < n → j ≠ i → g j = f j) : ((List.range n).map f).set i x = (List.range n).map g := by
  apply List.ext_getElem
  · simp
  · intro j h1 h2
    have hj : j < n := by simpa using h2
    rw [List.getElem_set, List.getElem_map, List.getElem_map, List.getElem_range]
    by_cases e : i = j
    · subst e; rw [if_pos rfl, hx]
    · rw [if_neg e, h j hj (fun e' => e e'.symm)]
theorem part_at (b : List UInt8) (n k q : Nat) (hk : k < n) : at_ (part b n k q) k = wordTo (b.drop (4 * k)) q := by
  rw [part, at_map _ _ _ hk, if_neg (Nat.lt_irrefl _), if_pos rfl]
theorem part_set (b : List UInt8) (n k q : Nat) : (part b n k q).set k (wordTo (b.drop (4 * k)) (q + 1)) = part b n k (q + 1) := by
  unfold part
  apply map_set
  · rw [if_neg (Nat.lt_irrefl _), if_pos rfl]
  · intro j _ h
    by_cases e : j < k
    · rw [if_pos e, if_pos e]
    · rw [if_neg e, if_neg e, if_neg h, if_neg h]
theorem part_next (b : List UInt8) (n k : Nat) : part b n k 4 = part b n (k + 1) 0 := by
  unfold part
  apply List.map_congr_left
  intro j _
  by_cases e : j < k
  · rw [if_pos e, if_pos (by omega)]
  · rw [if_neg e]
    by_cases e2 : j = k
    · rw [if_pos e2, if_pos (by omega)]
    · rw [if_neg e2, if_neg (by omega)]
      by_cases e3 : j = k + 1
      · rw [if_pos e3]; rfl
      · rw [if_neg e3]
theorem part_none (b : List UInt8) (n : Nat) : part b n 0 0 = List.replicate n 0 := by
  have h : part b n 0 0 = (List.range n).map fun _ => (0 : W) := by
    unfold part
    apply List.map_congr_left
    intro j _
    rw [if_neg (Nat.not_lt_zero _)]
    by_cases e : j = 0
    · rw [if_pos e]; rfl
    · rw [if_neg e]
  rw [h, List.map_const', List.length_range]
theorem part_all (b : List UInt8) (n : Nat) : part b n n 0 = words b n := by
  unfold part words
  apply List.map_congr_left
  intro j hj
  rw [if_pos (by simpa using hj)]
/-- A number of 32 bits, as the program holds it. -/
def V (x : W) : Value := .int .u32 ((n32 x : Nat) : Int)
def row (l : List W) : Array Value := (l.map V).toArray
theorem row_get (l : List W) (i : Nat) (hi : i < l.length) : (row l)[i]? = some (V (at_ l i)) := by
  simp [row, at_, List.getElem?_eq_getElem hi, List.getD_eq_getElem?_getD]
theorem row_set (l : List W) (i : Nat) (x : W) : (row l).setIfInBounds i (V x) = row (l.set i x) := by
  simp [row, List.map_set]
theorem row_size (l : List W) : (row l).size = l.length := by simp [row]
end Cha
end Go.Proofs.YthigbggacgiamaaDoor

namespace Go.Proofs.YthigbggacgiamaaDoor
open Go.RowKit
/-- A text among parts: the slice that is it, and its bytes. -/
structure Part where
  D : Option Addr
  n : Nat
  d : Nat
  t : List UInt8
def part (ps : List Part) (i : Nat) : Part := ps.getD i ⟨none, 0, 0, []⟩
/-- All parts' bytes, one behind the other. -/
def joined : List Part → List UInt8
  | [] => []
  | p :: r => p.t ++ joined r
theorem joined_more : ∀ (ps : List Part) (k : Nat), k < ps.length → joined (ps.take (k + 1)) = joined (ps.take k) ++ (part ps k).t
  | [], k, h => by simp at h
  | p :: r, 0, _ => by simp [joined, part]
  | p :: r, k + 1, h => by
    have ih := joined_more r k (by simpa using h)
    rw [List.take_succ_cons, List.take_succ_cons, joined, joined, ih, List.append_assoc]; rfl
/-- A slice of texts. -/
structure Parts (w : World) (B : Nat) (A : Option Addr) (n : Nat) (ps : List Part) : Prop where
  len : ps.length = n
  is : ∀ i, i < n → ∃ ad, A = some ad ∧ ad.block < B ∧ w.cell? (ad.add i) = some (.slice (part ps i).D (part ps i).n (part ps i).d) ∧ ReadsB w B (part ps i).D (part ps i).n (part ps i).t ∧ (part ps i).n ≤ 140737488355000
theorem Parts.below {w w' : World} {B : Nat} {A : Option Addr} {n : Nat} {ps : List Part} (h : Parts w B A n ps) (hb : Below B w w') : Parts w' B A n ps :=
  ⟨h.len, fun i hi => by
    obtain ⟨ad, e, hlt, hc, hr, hn⟩ := h.is i hi
    exact ⟨ad, e, hlt, by rw [← hc]; exact hb.cell (by rw [block_of_add]; exact hlt), ⟨hr.len, hr.is.below hb⟩, hn⟩⟩
theorem Parts.none (w : World) (B : Nat) : Parts w B none 0 [] := ⟨rfl, fun i hi => by omega⟩
theorem alloc_size (w : World) (o : Obj) : (w.alloc o).heap.size = w.heap.size + 1 := by show (w.heap.push o).size = _; rw [Array.size_push]
theorem parts_one {w : World} {A : Option Addr} {n c : Nat} {t : List UInt8} (hr : ReadsB w w.heap.size A n t) (hn : n ≤ 140737488355000) :
    Parts (w.alloc (.cells #[.slice A n c] 30)) (w.alloc (.cells #[.slice A n c] 30)).heap.size (some ⟨w.heap.size, 0, none⟩) 1 [⟨A, n, c, t⟩] := by
  refine ⟨rfl, fun i hi => ?_⟩
  have e : i = 0 := by omega
  subst e
  have hB := (Below.refl w.heap.size w).alloc (Nat.le_refl _) (.cells #[.slice A n c] 30)
  refine ⟨_, rfl, by rw [alloc_size]; exact Nat.lt_succ_self _, (Blk.nu (w := w) (t := 30) (cs := #[.slice A n c]) rfl).cell 0, ⟨hr.len, (hr.is.below hB).more hB.size⟩, hn⟩
theorem Parts.wide {w : World} {B B' : Nat} {A : Option Addr} {n : Nat} {ps : List Part} (h : Parts w B A n ps) (hB : B ≤ B') : Parts w B' A n ps :=
  ⟨h.len, fun i hi => by
    obtain ⟨ad, e, hlt, hc, hr, hn⟩ := h.is i hi
    exact ⟨ad, e, Nat.lt_of_lt_of_le hlt hB, hc, ⟨hr.len, hr.is.more hB⟩, hn⟩⟩
theorem joined_one (p : Part) : joined [p] = p.t := by simp [joined]
theorem reads_away {w w' : World} {B n : Nat} {A : Option Addr} {l : List UInt8} {row : Option Nat} (h : ReadsB w B A n l) (hg : w.grownBy w' row) (hB : B ≤ w.heap.size) (hne : 0 < n → ∀ ad, A = some ad → row ≠ some ad.block) : ReadsB w' B A n l :=
  ⟨h.len, h.is.1, fun hn => by
    obtain ⟨ad, e, hb, hc⟩ := h.is.2 hn
    exact ⟨ad, e, hb, fun j u hu => by rw [← hc j u hu]; exact World.cell?_of_block (hg.block _ (by rw [block_of_add]; omega) (by rw [block_of_add]; exact fun e' => hne hn ad e e'.symm))⟩⟩
theorem own_away {w w' : World} {B k : Nat} {v : Value} {l ctx : List UInt8} {D : Option Addr} (ho : OwnB w B v l) (hr : ReadsB w' B D k ctx) : 0 < k → ∀ ad, D = some ad → Value.ownBlock v ≠ some ad.block := fun h0 ad e => by
  obtain ⟨a2, e2, hb2, _⟩ := hr.is.2 h0
  rw [e2] at e; injection e with e; subst e
  rcases ho.size with e | ⟨g, e, hg, _⟩
  · rw [e]; intro e; cases e
  · rw [e]; intro e; injection e; omega
theorem joined_le (ps : List Part) (k : Nat) : (joined (ps.take k)).length ≤ (joined ps).length := by
  induction ps generalizing k with
  | nil => simp
  | cons p r ih =>
    cases k with
    | zero => simp [joined]
    | succ k => have := ih k; simp only [List.take_succ_cons, joined, List.length_append]; omega
theorem OwnB.room {w : World} {B n c : Nat} {A : Option Addr} {l : List UInt8} (h : OwnB w B (.slice A n c) l) : n ≤ c := by
  rcases h.own.2 with ⟨e, h0⟩ | ⟨g', cap, cur, e, _, _, hnc, _⟩
  · injection e with _ e2 e3; omega
  · injection e with _ e2 e3; omega
theorem OwnB.cut {w : World} {B n c k : Nat} {A : Option Addr} {l : List UInt8} (h : OwnB w B (.slice A n c) l) (hk : k ≤ n) : OwnB w B (.slice A k c) (l.take k) := by
  obtain ⟨hx, h2⟩ := h.own
  rcases h2 with ⟨e, h0⟩ | ⟨g', cap, cur, e, h3, h4, h5, h6, h7, h8⟩
  · injection e with e1 e2 e3
    subst e1 e2 e3
    obtain rfl : k = 0 := by omega
    exact ⟨by simp, .inl ⟨rfl, rfl⟩⟩
  · injection e with e1 e2 e3
    subst e1 e3
    have hl : (l.take k).length = k := by rw [List.length_take]; omega
    refine ⟨?_⟩
    rw [hl]
    refine ⟨by simp; omega, .inr ⟨g', c, cur, rfl, h3, h4, by omega, h6, h7, ?_⟩⟩
    rw [Nat.mul_one] at h8 ⊢
    rw [List.map_take, ← h8, List.take_take, Nat.min_eq_left (by omega)]
theorem OwnB.low {w : World} {B B' : Nat} {v : Value} {l : List UInt8} (h : OwnB w B v l) (hB : B' ≤ B) : OwnB w B' v l :=
  ⟨h.own.1, h.own.2.imp id fun ⟨g, cap, cur, e, hb, r⟩ => ⟨g, cap, cur, e, Nat.le_trans hB hb, r⟩⟩
end Go.Proofs.YthigbggacgiamaaDoor

