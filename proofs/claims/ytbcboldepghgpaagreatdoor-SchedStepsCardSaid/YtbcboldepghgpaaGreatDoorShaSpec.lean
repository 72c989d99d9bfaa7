/-
  The sums of layer 5, in plain Lean: words of 32 bits and of 64.
-/
import Derived.Test.YtbcboldepghgpaaGreatDoorStreamLaw
set_option linter.unusedVariables false
set_option linter.unusedSimpArgs false
set_option maxRecDepth 100000
namespace Go.Proofs.YtbcboldepghgpaaGreatDoor
open Go.RowKit
namespace Sha32
abbrev W := UInt32
def rot (x : W) (n : Nat) : W := shr32 x n ||| shl32 x (32 - n)
/-- turned twice and shifted; turned thrice. -/
def sig (a b c : Nat) (x : W) : W := rot x a ^^^ rot x b ^^^ shr32 x c
def big (a b c : Nat) (x : W) : W := rot x a ^^^ rot x b ^^^ rot x c
def at_ (l : List W) (i : Nat) : W := l.getD i 0
def K : List W := [1116352408, 1899447441, 3049323471, 3921009573, 961987163, 1508970993, 2453635748, 2870763221, 3624381080, 310598401, 607225278, 1426881987, 1925078388, 2162078206, 2614888103, 3248222580, 3835390401, 4022224774, 264347078, 604807628, 770255983, 1249150122, 1555081692, 1996064986, 2554220882, 2821834349, 2952996808, 3210313671, 3336571891, 3584528711, 113926993, 338241895, 666307205, 773529912, 1294757372, 1396182291, 1695183700, 1986661051, 2177026350, 2456956037, 2730485921, 2820302411, 3259730800, 3345764771, 3516065817, 3600352804, 4094571909, 275423344, 430227734, 506948616, 659060556, 883997877, 958139571, 1322822218, 1537002063, 1747873779, 1955562222, 2024104815, 2227730452, 2361852424, 2428436474, 2756734187, 3204031479, 3329325298]
theorem K_len : K.length = 64 := rfl
def near (x : W) : W := sig 7 18 3 x
def far (x : W) : W := sig 17 19 10 x
def first (x : W) : W := big 2 13 22 x
def fifth (x : W) : W := big 6 11 25 x
/-- The word that comes behind t words of a schedule. -/
def next (w : List W) : W := far (at_ w (w.length - 2)) + at_ w (w.length - 7) + near (at_ w (w.length - 15)) + at_ w (w.length - 16)
def more (_ : Nat) (w : List W) : List W := w ++ [next w]
/-- The eight words that are carried from round to round. -/
structure V where
  a : W
  b : W
  c : W
  d : W
  e : W
  f : W
  g : W
  h : W
def xOf (kt wt : W) (v : V) : W := v.h + fifth v.e + (v.g ^^^ v.e &&& (v.f ^^^ v.g)) + kt + wt
def yOf (v : V) : W := first v.a + (v.a &&& v.b ||| v.c &&& (v.a ||| v.b))
def round (w : List W) (t : Nat) (v : V) : V :=
  let x := xOf (at_ K t) (at_ w t) v
  { a := x + yOf v, b := v.a, c := v.b, d := v.c, e := v.d + x, f := v.e, g := v.f, h := v.g }
def toV (s : List W) : V := ⟨at_ s 0, at_ s 1, at_ s 2, at_ s 3, at_ s 4, at_ s 5, at_ s 6, at_ s 7⟩
def ofV (v : V) : List W := [v.a, v.b, v.c, v.d, v.e, v.f, v.g, v.h]
def add8 (u : List W) (i : Nat) (s : List W) : List W := s.set i (at_ s i + at_ u i)
/-- A block's sixteen words taken into a state. -/
def block (s : List W) (w : List W) : List W := iter (add8 (ofV (iter (round (iter more 48 w)) 64 (toV s)))) 8 s
/-- Bytes, the highest first, as one word; the words of bytes. -/
def wordTo (b : List UInt8) (k : Nat) : W := iter (fun i x => x <<< 8 ||| (nth b i).toUInt32) k 0
def wordsTo (b : List UInt8) : Nat → List W
  | 0 => []
  | k + 1 => wordsTo b k ++ [wordTo (b.drop (4 * k)) 4]
def words (b : List UInt8) : List W := wordsTo b 16
theorem wordsTo_len (b : List UInt8) : ∀ k, (wordsTo b k).length = k
  | 0 => rfl
  | k + 1 => by rw [wordsTo, List.length_append, wordsTo_len b k]; rfl
theorem more_len (w : List W) (k : Nat) : (iter more k w).length = w.length + k := by
  induction k with
  | zero => rfl
  | succ k ih => rw [iter, more, List.length_append, ih]; rfl
theorem add8_len (u s : List W) (k : Nat) : (iter (add8 u) k s).length = s.length := iter_keeps _ _ (fun k s => by simp [add8]) k s
theorem block_len (s w : List W) : (block s w).length = s.length := add8_len _ _ _
/-- m blocks, one by one. -/
def feed : Nat → List UInt8 → List W → List W
  | 0, _, s => s
  | m + 1, l, s => feed m (l.drop 64) (block s (words (l.take 64)))
theorem feed_snoc : ∀ (m : Nat) (l : List UInt8) (s : List W), feed (m + 1) l s = block (feed m l s) (words ((l.drop (64 * m)).take 64))
  | 0, l, s => by rw [Nat.mul_zero, List.drop_zero]; rfl
  | m + 1, l, s => by
    rw [feed, feed_snoc m, feed, List.drop_drop]
    rw [show 64 + 64 * m = 64 * (m + 1) by omega]
theorem feed_len : ∀ (m : Nat) (l : List UInt8) (s : List W), (feed m l s).length = s.length
  | 0, _, _ => rfl
  | m + 1, l, s => by rw [feed, feed_len m, block_len]
theorem feed_more : ∀ (m : Nat) (l r : List UInt8) (s : List W), 64 * m ≤ l.length → feed m (l ++ r) s = feed m l s
  | 0, _, _, _, _ => rfl
  | m + 1, l, r, s, h => by
    rw [feed, feed, List.drop_append_of_le_length (by omega), List.take_append_of_le_length (by omega)]
    exact feed_more m _ r _ (by rw [List.length_drop]; omega)
theorem feed_add : ∀ (m k : Nat) (l : List UInt8) (s : List W), feed (m + k) l s = feed k (l.drop (64 * m)) (feed m l s)
  | 0, k, l, s => by rw [Nat.zero_add, Nat.mul_zero, List.drop_zero]; rfl
  | m + 1, k, l, s => by
    rw [show m + 1 + k = (m + k) + 1 by omega, feed, feed, feed_add m k, List.drop_drop, show 64 + 64 * m = 64 * (m + 1) by omega]
/-- What the reference mixes otherwise. -/
theorem ch_is (e f g : W) : (g ^^^ e &&& (f ^^^ g)) = (e &&& f ^^^ ~~~e &&& g) := by
  apply UInt32.eq_of_toBitVec_eq
  apply BitVec.eq_of_getLsbD_eq
  intro i hi
  simp only [UInt32.toBitVec_xor, UInt32.toBitVec_and, UInt32.toBitVec_not, BitVec.getLsbD_xor, BitVec.getLsbD_and, BitVec.getLsbD_not, hi, decide_true, Bool.true_and]
  cases e.toBitVec.getLsbD i <;> cases f.toBitVec.getLsbD i <;> cases g.toBitVec.getLsbD i <;> rfl
theorem maj_is (a b c : W) : (a &&& b ||| c &&& (a ||| b)) = (a &&& b ^^^ a &&& c ^^^ b &&& c) := by
  apply UInt32.eq_of_toBitVec_eq
  apply BitVec.eq_of_getLsbD_eq
  intro i hi
  simp only [UInt32.toBitVec_xor, UInt32.toBitVec_and, UInt32.toBitVec_or, BitVec.getLsbD_xor, BitVec.getLsbD_and, BitVec.getLsbD_or]
  cases a.toBitVec.getLsbD i <;> cases b.toBitVec.getLsbD i <;> cases c.toBitVec.getLsbD i <;> rfl
end Sha32

namespace Sha64
abbrev W := UInt64
def rot (x : W) (n : Nat) : W := shr64 x n ||| shl64 x (64 - n)
/-- turned twice and shifted; turned thrice. -/
def sig (a b c : Nat) (x : W) : W := rot x a ^^^ rot x b ^^^ shr64 x c
def big (a b c : Nat) (x : W) : W := rot x a ^^^ rot x b ^^^ rot x c
def at_ (l : List W) (i : Nat) : W := l.getD i 0
def K : List W := [4794697086780616226, 8158064640168781261, 13096744586834688815, 16840607885511220156, 4131703408338449720, 6480981068601479193, 10538285296894168987, 12329834152419229976, 15566598209576043074, 1334009975649890238, 2608012711638119052, 6128411473006802146, 8268148722764581231, 9286055187155687089, 11230858885718282805, 13951009754708518548, 16472876342353939154, 17275323862435702243, 1135362057144423861, 2597628984639134821, 3308224258029322869, 5365058923640841347, 6679025012923562964, 8573033837759648693, 10970295158949994411, 12119686244451234320, 12683024718118986047, 13788192230050041572, 14330467153632333762, 15395433587784984357, 489312712824947311, 1452737877330783856, 2861767655752347644, 3322285676063803686, 5560940570517711597, 5996557281743188959, 7280758554555802590, 8532644243296465576, 9350256976987008742, 10552545826968843579, 11727347734174303076, 12113106623233404929, 14000437183269869457, 14369950271660146224, 15101387698204529176, 15463397548674623760, 17586052441742319658, 1182934255886127544, 1847814050463011016, 2177327727835720531, 2830643537854262169, 3796741975233480872, 4115178125766777443, 5681478168544905931, 6601373596472566643, 7507060721942968483, 8399075790359081724, 8693463985226723168, 9568029438360202098, 10144078919501101548, 10430055236837252648, 11840083180663258601, 13761210420658862357, 14299343276471374635, 14566680578165727644, 15097957966210449927, 16922976911328602910, 17689382322260857208, 500013540394364858, 748580250866718886, 1242879168328830382, 1977374033974150939, 2944078676154940804, 3659926193048069267, 4368137639120453308, 4836135668995329356, 5532061633213252278, 6448918945643986474, 6902733635092675308, 7801388544844847127]
theorem K_len : K.length = 80 := rfl
def near (x : W) : W := sig 1 8 7 x
def far (x : W) : W := sig 19 61 6 x
def first (x : W) : W := big 28 34 39 x
def fifth (x : W) : W := big 14 18 41 x
/-- The word that comes behind t words of a schedule. -/
def next (w : List W) : W := far (at_ w (w.length - 2)) + at_ w (w.length - 7) + near (at_ w (w.length - 15)) + at_ w (w.length - 16)
def more (_ : Nat) (w : List W) : List W := w ++ [next w]
/-- The eight words that are carried from round to round. -/
structure V where
  a : W
  b : W
  c : W
  d : W
  e : W
  f : W
  g : W
  h : W
def xOf (kt wt : W) (v : V) : W := v.h + fifth v.e + (v.g ^^^ v.e &&& (v.f ^^^ v.g)) + kt + wt
def yOf (v : V) : W := first v.a + (v.a &&& v.b ||| v.c &&& (v.a ||| v.b))
def round (w : List W) (t : Nat) (v : V) : V :=
  let x := xOf (at_ K t) (at_ w t) v
  { a := x + yOf v, b := v.a, c := v.b, d := v.c, e := v.d + x, f := v.e, g := v.f, h := v.g }
def toV (s : List W) : V := ⟨at_ s 0, at_ s 1, at_ s 2, at_ s 3, at_ s 4, at_ s 5, at_ s 6, at_ s 7⟩
def ofV (v : V) : List W := [v.a, v.b, v.c, v.d, v.e, v.f, v.g, v.h]
def add8 (u : List W) (i : Nat) (s : List W) : List W := s.set i (at_ s i + at_ u i)
/-- A block's sixteen words taken into a state. -/
def block (s : List W) (w : List W) : List W := iter (add8 (ofV (iter (round (iter more 64 w)) 80 (toV s)))) 8 s
/-- Bytes, the highest first, as one word; the words of bytes. -/
def wordTo (b : List UInt8) (k : Nat) : W := iter (fun i x => x <<< 8 ||| (nth b i).toUInt64) k 0
def wordsTo (b : List UInt8) : Nat → List W
  | 0 => []
  | k + 1 => wordsTo b k ++ [wordTo (b.drop (8 * k)) 8]
def words (b : List UInt8) : List W := wordsTo b 16
theorem wordsTo_len (b : List UInt8) : ∀ k, (wordsTo b k).length = k
  | 0 => rfl
  | k + 1 => by rw [wordsTo, List.length_append, wordsTo_len b k]; rfl
theorem more_len (w : List W) (k : Nat) : (iter more k w).length = w.length + k := by
  induction k with
  | zero => rfl
  | succ k ih => rw [iter, more, List.length_append, ih]; rfl
theorem add8_len (u s : List W) (k : Nat) : (iter (add8 u) k s).length = s.length := iter_keeps _ _ (fun k s => by simp [add8]) k s
theorem block_len (s w : List W) : (block s w).length = s.length := add8_len _ _ _
/-- m blocks, one by one. -/
def feed : Nat → List UInt8 → List W → List W
  | 0, _, s => s
  | m + 1, l, s => feed m (l.drop 128) (block s (words (l.take 128)))
theorem feed_snoc : ∀ (m : Nat) (l : List UInt8) (s : List W), feed (m + 1) l s = block (feed m l s) (words ((l.drop (128 * m)).take 128))
  | 0, l, s => by rw [Nat.mul_zero, List.drop_zero]; rfl
  | m + 1, l, s => by
    rw [feed, feed_snoc m, feed, List.drop_drop]
    rw [show 128 + 128 * m = 128 * (m + 1) by omega]
theorem feed_len : ∀ (m : Nat) (l : List UInt8) (s : List W), (feed m l s).length = s.length
  | 0, _, _ => rfl
  | m + 1, l, s => by rw [feed, feed_len m, block_len]
theorem feed_more : ∀ (m : Nat) (l r : List UInt8) (s : List W), 128 * m ≤ l.length → feed m (l ++ r) s = feed m l s
  | 0, _, _, _, _ => rfl
  | m + 1, l, r, s, h => by
    rw [feed, feed, List.drop_append_of_le_length (by omega), List.take_append_of_le_length (by omega)]
    exact feed_more m _ r _ (by rw [List.length_drop]; omega)
theorem feed_add : ∀ (m k : Nat) (l : List UInt8) (s : List W), feed (m + k) l s = feed k (l.drop (128 * m)) (feed m l s)
  | 0, k, l, s => by rw [Nat.zero_add, Nat.mul_zero, List.drop_zero]; rfl
  | m + 1, k, l, s => by
    rw [show m + 1 + k = (m + k) + 1 by omega, feed, feed, feed_add m k, List.drop_drop, show 128 + 128 * m = 128 * (m + 1) by omega]
/-- What the reference mixes otherwise. -/
theorem ch_is (e f g : W) : (g ^^^ e &&& (f ^^^ g)) = (e &&& f ^^^ ~~~e &&& g) := by
  apply UInt64.eq_of_toBitVec_eq
  apply BitVec.eq_of_getLsbD_eq
  intro i hi
  simp only [UInt64.toBitVec_xor, UInt64.toBitVec_and, UInt64.toBitVec_not, BitVec.getLsbD_xor, BitVec.getLsbD_and, BitVec.getLsbD_not, hi, decide_true, Bool.true_and]
  cases e.toBitVec.getLsbD i <;> cases f.toBitVec.getLsbD i <;> cases g.toBitVec.getLsbD i <;> rfl
theorem maj_is (a b c : W) : (a &&& b ||| c &&& (a ||| b)) = (a &&& b ^^^ a &&& c ^^^ b &&& c) := by
  apply UInt64.eq_of_toBitVec_eq
  apply BitVec.eq_of_getLsbD_eq
  intro i hi
  simp only [UInt64.toBitVec_xor, UInt64.toBitVec_and, UInt64.toBitVec_or, BitVec.getLsbD_xor, BitVec.getLsbD_and, BitVec.getLsbD_or]
  cases a.toBitVec.getLsbD i <;> cases b.toBitVec.getLsbD i <;> cases c.toBitVec.getLsbD i <;> rfl
end Sha64

end Go.Proofs.YtbcboldepghgpaaGreatDoor
