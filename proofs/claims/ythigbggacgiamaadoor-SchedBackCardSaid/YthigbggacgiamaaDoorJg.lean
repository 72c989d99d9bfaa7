/-
  The sums of layer 5, in plain Lean: words of 32 bits and of 64.
  The walks of a word turned, and mixed.
  Words of 32 and of 64 bits in memory.
  The walk of a block taken into a state.
  The walks of a block's words, a word's bytes, and the sizes.
  Bytes put behind bytes that came in: an append that never writes into the first's own row.
  A digest in memory, and the walk of Write.
  The walks of a digest's beginning and of its copy.
  A digest of bytes: what New, Write and Clone make of it.
-/
import Derived.Test.YthigbggacgiamaaDoorJa
import Derived.WalkSpells
import Derived.BigQuiet
import Derived.Deep.QuietTactic
import Derived.ArgAppend
import Derived.BigRegion
import Derived.Laws.MakeOwn
set_option linter.unusedVariables false
set_option linter.unusedSimpArgs false
set_option maxRecDepth 100000
namespace Go.Proofs.YthigbggacgiamaaDoor
open Go.RowKit
namespace Sha32
abbrev W := UInt32
def rot (x : W) (n : Nat) : W := shr32 x n ||| shl32 x (32 - n)
/-- turned twice and shifted; turned thrice. -/
def sig (a b c : Nat) (x : W) : W := rot x a ^^^ rot x b ^^^ shr32 x c
def big (a b c : Nat) (x : W) : W := rot x a ^^^ rot x b ^^^ rot x c
def at_ (l : List W) (i : Nat) : W := l.getD i 0
def K : List W := [1116352408, 1899447441, 3049323471, 3921009573, 961987163, 1508970993, 2453635748, 2870763221, 3624381080, 310598401, 607225278, 1426881987, 1925078388, 2162078206, 2614888103, 3248222580, 3835390401, 4022224774, 264347078, 604807628, 770255983, 1249150122, 1555081692, 1996064986, 2554220882, 2821834349, 2952996808, 3210313671, 3336571891, 3584528711, 113926993, 338241895, 666307205, 773529912, 1294757372, 1396182291, 1695183700, 1986661051, 2177026350, 2456956037, 2730485921, 2820302411, 3259730800, 3345764771, 3516065817, 3600352804, 4094571909, 275423344, 430227734, 506948616, 659060556, 883997877, 958139571, 1322822218, 1537002063, 1747873779, 1955562222, 2024104815, 2227730452, 2361852424, 2428436474, 2756734187, 3204031479, 3329325298]
theorem K_len : K.length = 64 := rfl
def near (x : W) : W := sig 7 18 3 x
def far (x : W) : W := sig 17 19 10 x
def first (x : W) : W := big 2 13 22 x
def fifth (x : W) : W := big 6 11 25 x
/-- The word that comes behind t words of a schedule. -/
def next (w : List W) : W := far (at_ w (w.length - 2)) + at_ w (w.length - 7) + near (at_ w (w.length - 15)) + at_ w (w.length - 16)
def more (_ : Nat) (w : List W) : List W := w ++ [next w]
/-- The eight words that are carried from round to round. -/
structure V where
  a : W
  b : W
  c : W
  d : W
  e : W
  f : W
  g : W
  h : W
def xOf (kt wt : W) (v : V) : W := v.h + fifth v.e + (v.g ^^^ v.e &&& (v.f ^^^ v.g)) + kt + wt
def yOf (v : V) : W := first v.a + (v.a &&& v.b ||| v.c &&& (v.a ||| v.b))
def round (w : List W) (t : Nat) (v : V) : V :=
  let x := xOf (at_ K t) (at_ w t) v
  { a := x + yOf v, b := v.a, c := v.b, d := v.c, e := v.d + x, f := v.e, g := v.f, h := v.g }
def toV (s : List W) : V := ⟨at_ s 0, at_ s 1, at_ s 2, at_ s 3, at_ s 4, at_ s 5, at_ s 6, at_ s 7⟩
def ofV (v : V) : List W := [v.a, v.b, v.c, v.d, v.e, v.f, v.g, v.h]
def add8 (u : List W) (i : Nat) (s : List W) : List W := s.set i (at_ s i + at_ u i)
/-- A block's sixteen words taken into a state. -/
def block (s : List W) (w : List W) : List W := iter (add8 (ofV (iter (round (iter more 48 w)) 64 (toV s)))) 8 s
/-- Bytes, the highest first, as one word; the words of bytes. -/
def wordTo (b : List UInt8) (k : Nat) : W := iter (fun i x => x <<< 8 ||| (nth b i).toUInt32) k 0
def wordsTo (b : List UInt8) : Nat → List W
  | 0 => []
  | k + 1 => wordsTo b k ++ [wordTo (b.drop (4 * k)) 4]
def words (b : List UInt8) : List W := wordsTo b 16
theorem wordsTo_len (b : List UInt8) : ∀ k, (wordsTo b k).length = k
  | 0 => rfl
  | k + 1 => by rw [wordsTo, List.length_append, wordsTo_len b k]; rfl
theorem more_len (w : List W) (k : Nat) : (iter more k w).length = w.length + k := by
  induction k with
  | zero => rfl
  | succ k ih => rw [iter, more, List.length_append, ih]; rfl
theorem add8_len (u s : List W) (k : Nat) : (iter (add8 u) k s).length = s.length := iter_keeps _ _ (fun k s => by simp [add8]) k s
theorem block_len (s w : List W) : (block s w).length = s.length := add8_len _ _ _
/-- m blocks, one by one. -/
def feed : Nat → List UInt8 → List W → List W
  | 0, _, s => s
  | m + 1, l, s => feed m (l.drop 64) (block s (words (l.take 64)))
theorem feed_snoc : ∀ (m : Nat) (l : List UInt8) (s : List W), feed (m + 1) l s = block (feed m l s) (words ((l.drop (64 * m)).take 64))
  | 0, l, s => by rw [Nat.mul_zero, List.drop_zero]; rfl
  | m + 1, l, s => by
    rw [feed, feed_snoc m, feed, List.drop_drop]
    rw [show 64 + 64 * m = 64 * (m + 1) by omega]
theorem feed_len : ∀ (m : Nat) (l : List UInt8) (s : List W), (feed m l s).length = s.length
  | 0, _, _ => rfl
  | m + 1, l, s => by rw [feed, feed_len m, block_len]
theorem feed_more : ∀ (m : Nat) (l r : List UInt8) (s : List W), 64 * m ≤ l.length → feed m (l ++ r) s = feed m l s
  | 0, _, _, _, _ => rfl
  | m + 1, l, r, s, h => by
    rw [feed, feed, List.drop_append_of_le_length (by omega), List.take_append_of_le_length (by omega)]
    exact feed_more m _ r _ (by rw [List.length_drop]; omega)
theorem feed_add : ∀ (m k : Nat) (l : List UInt8) (s : List W), feed (m + k) l s = feed k (l.drop (64 * m)) (feed m l s)
  | 0, k, l, s => by rw [Nat.zero_add, Nat.mul_zero, List.drop_zero]; rfl
  | m + 1, k, l, s => by
    rw [show m + 1 + k = (m + k) + 1 by omega, feed, feed, feed_add m k, List.drop_drop, show 64 + 64 * m = 64 * (m + 1) by omega]
/-- What the reference mixes otherwise. -/
theorem ch_is (e f g : W) : (g ^^^ e &&& (f ^^^ g)) = (e &&& f ^^^ ~~~e &&& g) := by
  apply UInt32.eq_of_toBitVec_eq
  apply BitVec.eq_of_getLsbD_eq
  intro i hi
  simp only [UInt32.toBitVec_xor, UInt32.toBitVec_and, UInt32.toBitVec_not, BitVec.getLsbD_xor, BitVec.getLsbD_and, BitVec.getLsbD_not, hi, decide_true, Bool.true_and]
  cases e.toBitVec.getLsbD i <;> cases f.toBitVec.getLsbD i <;> cases g.toBitVec.getLsbD i <;> rfl
theorem maj_is (a b c : W) : (a &&& b ||| c &&& (a ||| b)) = (a &&& b ^^^ a &&& c ^^^ b &&& c) := by
  apply UInt32.eq_of_toBitVec_eq
  apply BitVec.eq_of_getLsbD_eq
  intro i hi
  simp only [UInt32.toBitVec_xor, UInt32.toBitVec_and, UInt32.toBitVec_or, BitVec.getLsbD_xor, BitVec.getLsbD_and, BitVec.getLsbD_or]
  cases a.toBitVec.getLsbD i <;> cases b.toBitVec.getLsbD i <;> cases c.toBitVec.getLsbD i <;> rfl
end Sha32

namespace Sha64
abbrev W := UInt64
def rot (x : W) (n : Nat) : W := shr64 x n ||| shl64 x (64 - n)
/-- turned twice and shifted; turned thrice. -/
def sig (a b c : Nat) (x : W) : W := rot x a ^^^ rot x b ^^^ shr64 x c
def big (a b c : Nat) (x : W) : W := rot x a ^^^ rot x b ^^^ rot x c
def at_ (l : List W) (i : Nat) : W := l.getD i 0
def K : List W := [4794697086780616226, 8158064640168781261, 13096744586834688815, 16840607885511220156, 4131703408338449720, 6480981068601479193, 10538285296894168987, 12329834152419229976, 15566598209576043074, 1334009975649890238, 2608012711638119052, 6128411473006802146, 8268148722764581231, 9286055187155687089, 11230858885718282805, 13951009754708518548, 16472876342353939154, 17275323862435702243, 1135362057144423861, 2597628984639134821, 3308224258029322869, 5365058923640841347, 6679025012923562964, 8573033837759648693, 10970295158949994411, 12119686244451234320, 12683024718118986047, 13788192230050041572, 14330467153632333762, 15395433587784984357, 489312712824947311, 1452737877330783856, 2861767655752347644, 3322285676063803686, 5560940570517711597, 5996557281743188959, 7280758554555802590, 8532644243296465576, 9350256976987008742, 10552545826968843579, 11727347734174303076, 12113106623233404929, 14000437183269869457, 14369950271660146224, 15101387698204529176, 15463397548674623760, 17586052441742319658, 1182934255886127544, 1847814050463011016, 2177327727835720531, 2830643537854262169, 3796741975233480872, 4115178125766777443, 5681478168544905931, 6601373596472566643, 7507060721942968483, 8399075790359081724, 8693463985226723168, 9568029438360202098, 10144078919501101548, 10430055236837252648, 11840083180663258601, 13761210420658862357, 14299343276471374635, 14566680578165727644, 15097957966210449927, 16922976911328602910, 17689382322260857208, 500013540394364858, 748580250866718886, 1242879168328830382, 1977374033974150939, 2944078676154940804, 3659926193048069267, 4368137639120453308, 4836135668995329356, 5532061633213252278, 6448918945643986474, 6902733635092675308, 7801388544844847127]
theorem K_len : K.length = 80 := rfl
def near (x : W) : W := sig 1 8 7 x
def far (x : W) : W := sig 19 61 6 x
def first (x : W) : W := big 28 34 39 x
def fifth (x : W) : W := big 14 18 41 x
/-- The word that comes behind t words of a schedule. -/
def next (w : List W) : W := far (at_ w (w.length - 2)) + at_ w (w.length - 7) + near (at_ w (w.length - 15)) + at_ w (w.length - 16)
def more (_ : Nat) (w : List W) : List W := w ++ [next w]
/-- The eight words that are carried from round to round. -/
structure V where
  a : W
  b : W
  c : W
  d : W
  e : W
  f : W
  g : W
  h : W
def xOf (kt wt : W) (v : V) : W := v.h + fifth v.e + (v.g ^^^ v.e &&& (v.f ^^^ v.g)) + kt + wt
def yOf (v : V) : W := first v.a + (v.a &&& v.b ||| v.c &&& (v.a ||| v.b))
def round (w : List W) (t : Nat) (v : V) : V :=
  let x := xOf (at_ K t) (at_ w t) v
  { a := x + yOf v, b := v.a, c := v.b, d := v.c, e := v.d + x, f := v.e, g := v.f, h := v.g }
def toV (s : List W) : V := ⟨at_ s 0, at_ s 1, at_ s 2, at_ s 3, at_ s 4, at_ s 5, at_ s 6, at_ s 7⟩
def ofV (v : V) : List W := [v.a, v.b, v.c, v.d, v.e, v.f, v.g, v.h]
def add8 (u : List W) (i : Nat) (s : List W) : List W := s.set i (at_ s i + at_ u i)
/-- A block's sixteen words taken into a state. -/
def block (s : List W) (w : List W) : List W := iter (add8 (ofV (iter (round (iter more 64 w)) 80 (toV s)))) 8 s
/-- Bytes, the highest first, as one word; the words of bytes. -/
def wordTo (b : List UInt8) (k : Nat) : W := iter (fun i x => x <<< 8 ||| (nth b i).toUInt64) k 0
def wordsTo (b : List UInt8) : Nat → List W
  | 0 => []
  | k + 1 => wordsTo b k ++ [wordTo (b.drop (8 * k)) 8]
def words (b : List UInt8) : List W := wordsTo b 16
theorem wordsTo_len (b : List UInt8) : ∀ k, (wordsTo b k).length = k
  | 0 => rfl
  | k + 1 => by rw [wordsTo, List.length_append, wordsTo_len b k]; rfl
theorem more_len (w : List W) (k : Nat) : (iter more k w).length = w.length + k := by
  induction k with
  | zero => rfl
  | succ k ih => rw [iter, more, List.length_append, ih]; rfl
theorem add8_len (u s : List W) (k : Nat) : (iter (add8 u) k s).length = s.length := iter_keeps _ _ (fun k s => by simp [add8]) k s
theorem block_len (s w : List W) : (block s w).length = s.length := add8_len _ _ _
/-- m blocks, one by one. -/
def feed : Nat → List UInt8 → List W → List W
  | 0, _, s => s
  | m + 1, l, s => feed m (l.drop 128) (block s (words (l.take 128)))
theorem feed_snoc : ∀ (m : Nat) (l : List UInt8) (s : List W), feed (m + 1) l s = block (feed m l s) (words ((l.drop (128 * m)).take 128))
  | 0, l, s => by rw [Nat.mul_zero, List.drop_zero]; rfl
  | m + 1, l, s => by
    rw [feed, feed_snoc m, feed, List.drop_drop]
    rw [show 128 + 128 * m = 128 * (m + 1) by omega]
theorem feed_len : ∀ (m : Nat) (l : List UInt8) (s : List W), (feed m l s).length = s.length
  | 0, _, _ => rfl
  | m + 1, l, s => by rw [feed, feed_len m, block_len]
theorem feed_more : ∀ (m : Nat) (l r : List UInt8) (s : List W), 128 * m ≤ l.length → feed m (l ++ r) s = feed m l s
  | 0, _, _, _, _ => rfl
  | m + 1, l, r, s, h => by
    rw [feed, feed, List.drop_append_of_le_length (by omega), List.take_append_of_le_length (by omega)]
    exact feed_more m _ r _ (by rw [List.length_drop]; omega)
theorem feed_add : ∀ (m k : Nat) (l : List UInt8) (s : List W), feed (m + k) l s = feed k (l.drop (128 * m)) (feed m l s)
  | 0, k, l, s => by rw [Nat.zero_add, Nat.mul_zero, List.drop_zero]; rfl
  | m + 1, k, l, s => by
    rw [show m + 1 + k = (m + k) + 1 by omega, feed, feed, feed_add m k, List.drop_drop, show 128 + 128 * m = 128 * (m + 1) by omega]
/-- What the reference mixes otherwise. -/
theorem ch_is (e f g : W) : (g ^^^ e &&& (f ^^^ g)) = (e &&& f ^^^ ~~~e &&& g) := by
  apply UInt64.eq_of_toBitVec_eq
  apply BitVec.eq_of_getLsbD_eq
  intro i hi
  simp only [UInt64.toBitVec_xor, UInt64.toBitVec_and, UInt64.toBitVec_not, BitVec.getLsbD_xor, BitVec.getLsbD_and, BitVec.getLsbD_not, hi, decide_true, Bool.true_and]
  cases e.toBitVec.getLsbD i <;> cases f.toBitVec.getLsbD i <;> cases g.toBitVec.getLsbD i <;> rfl
theorem maj_is (a b c : W) : (a &&& b ||| c &&& (a ||| b)) = (a &&& b ^^^ a &&& c ^^^ b &&& c) := by
  apply UInt64.eq_of_toBitVec_eq
  apply BitVec.eq_of_getLsbD_eq
  intro i hi
  simp only [UInt64.toBitVec_xor, UInt64.toBitVec_and, UInt64.toBitVec_or, BitVec.getLsbD_xor, BitVec.getLsbD_and, BitVec.getLsbD_or]
  cases a.toBitVec.getLsbD i <;> cases b.toBitVec.getLsbD i <;> cases c.toBitVec.getLsbD i <;> rfl
end Sha64

end Go.Proofs.YthigbggacgiamaaDoor

namespace Go.Proofs.YthigbggacgiamaaDoor
open Go.RowKit
/-- Three numbers that an array holds. -/
def three (a b c : Nat) : Array Value := #[.int .i64 (a : Int), .int .i64 (b : Int), .int .i64 (c : Int)]
theorem run_load_i64 (ad : Addr) (v : Value) (w : World) (h : w.cell? ad = some v) : (loadVar 3 ad).run Tryd.prog w = .ok v w := by
  simp [loadVar, go_sem, h]
theorem index3 (z i : Nat) (hi : i < 3) (w : World) : (Instr.indexAt 112 (.pointer (some ⟨z, 0, none⟩)) (.int .i64 (i : Int))).run Tryd.prog w = .ok (.pointer (some ⟨z, i, none⟩)) w := by
  rcases (show i = 0 ∨ i = 1 ∨ i = 2 by omega) with rfl | rfl | rfl <;> kernel_rfl
theorem run_indexAddr {P : Program} {w : World} {o : Oper} {ρ : Operand → Value} {t : TypeId} {x y : Operand} {v u r : Value} (ho : o.op = .indexAddr t x y) (hx : ρ x = v) (hy : ρ y = u) (h : ∀ w, (Instr.indexAt t v u).run P w = .ok r w) : (execOp ρ o).run P w = .ok (.value r) w := by
  unfold execOp
  simp only [ho, hx, hy, Sem.run_bind, h, Result.andThen_ok]
  rfl
/-- A block that holds three numbers, and all that was there before. -/
structure Mx (w : World) (cs : Array Value) (W : World) : Prop where
  at_ : Blk W w.heap.size 112 cs
  old : Below w.heap.size w W
theorem Mx.next {w : World} {cs : Array Value} {W w' : World} (h : Mx w cs W) (hb : Below W.heap.size W w') : Mx w cs w' := ⟨h.at_.below hb h.at_.lt, h.old.trans (hb.mono h.old.size)⟩
theorem Mx.call {w : World} {cs : Array Value} {W : World} {P : Program} {f : FuncId} {args : Array Value} {v : Value} (h : Mx w cs W) (hc : Calls P f args W fun e w' => e = .returned v ∧ Below W.heap.size W w') :
    Calls P f args W fun e w' => e = .returned v ∧ Mx w cs w' := hc.mono fun _ _ ⟨he, hb⟩ => ⟨he, h.next hb⟩
theorem enter_turned32 (args : Array Value) (w : World) : (callFunc 82 args).run Tryd.prog w = .ok (.enter 82 args) w := by kernel_rfl
theorem run_xor32 {P : Program} {o : Oper} {ρ : Operand → Value} {x y : Operand} {t rt : TypeId} (ho : o.op = .binOp .xor t x y rt) (a b : UInt32) (hx : ρ x = .int .u32 ((n32 a : Nat) : Int)) (hy : ρ y = .int .u32 ((n32 b : Nat) : Int)) (w : World) :
    (execOp ρ o).run P w = .ok (.value (.int .u32 ((n32 (a ^^^ b) : Nat) : Int))) w := by
  unfold execOp
  simp only [ho, hx, hy]
  simp [go_sem]
set_option maxHeartbeats 2000000 in
set_option maxRecDepth 100000 in
theorem turned32_any (x : UInt32) (n : Nat) (hn : n ≤ 32) (w : World) :
    Calls Tryd.prog 82 #[.int .u32 ((n32 x : Nat) : Int), .int .i64 (n : Int), .int .i64 32] w fun e w' => e = .returned (.int .u32 ((n32 (Sha32.rot x n) : Nat) : Int)) ∧ Below w.heap.size w w' := by
  have e1 : (32 : Int) - (n : Int) = ((32 - n : Nat) : Int) := by omega
  obtain ⟨m, Hm⟩ : ∃ m, Hd (32 - n = m) := ⟨_, ⟨rfl⟩⟩
  rw [Hm.out] at e1
  have v1 : IntKind.i64.wrap (m : Int) = (m : Int) := IntWalk.i64_in _ (by have := Hm.out; omega)
  have v2 : (0 : Int) ≤ (n : Int) := by omega
  have v3 : (0 : Int) ≤ (m : Int) := by omega
  have Hr := hd (show Sha32.rot x n = shr32 x n ||| shl32 x m by rw [Sha32.rot, Hm.out])
  go_enter Tryd.func82, Tryd.ntmps82
  go_wp2
  go_quiet (fail)
  go_wp2
  go_ret
  exact ⟨by rw [Hr.out]; rfl, below_drewN (Below.refl _ _) _⟩
set_option maxHeartbeats 4000000 in
set_option maxRecDepth 100000 in
theorem mixed32_any (x : UInt32) (a b c : Nat) (ha : a ≤ 32) (hb : b ≤ 32) (hc : c ≤ 32) (sh : Bool) (w : World) :
    Calls Tryd.prog 65 #[.int .u32 ((n32 x : Nat) : Int), .int .i64 32, .agg (three a b c), .bool sh] w fun e w' => e = .returned (.int .u32 ((n32 (if sh then Sha32.sig a b c x else Sha32.big a b c x) : Nat) : Int)) ∧ Below w.heap.size w w' := by
  have hS0 : Mx w (three a b c) (w.alloc (.cells (three a b c) 112)) := ⟨Blk.nu rfl, (Below.refl _ _).alloc (Nat.le_refl _) _⟩
  go_enter Tryd.func65, Tryd.ntmps65
  go_wp2
  refine u_start (S := fun _ => Mx w (three a b c)) 99 (by kernel_rfl) (hS0.next (Below.refl _ _).drew) ?_
  refine u_take 0 rfl (o := _) rfl (by kernel_rfl) (by kernel_rfl) (by kernel_rfl) (.int .u32 ((n32 x : Nat) : Int)) (fun _ _ _ h => h) (g_value rfl (wanted_plain rfl) (fun f W hW => run_move (by rfl) (by simp [Act.eval]) W)) ?_
  simp only [Act.put, List.getElem_toArray, List.getElem_cons_succ, List.getElem_cons_zero, List.setIfInBounds_toArray, List.set_cons_zero, List.set_cons_succ]
  refine u_take 1 rfl (o := _) rfl (by kernel_rfl) (by kernel_rfl) (by kernel_rfl) (.pointer (some ⟨w.heap.size, 0, none⟩)) (fun _ _ _ h => h) (g_value rfl (wanted_plain rfl) (fun f W hW => run_indexAddr (by rfl) (by simp [Act.eval]) (by simp [Act.eval]) (index3 w.heap.size 0 (by omega)))) ?_
  simp only [Act.put, List.getElem_toArray, List.getElem_cons_succ, List.getElem_cons_zero, List.setIfInBounds_toArray, List.set_cons_zero, List.set_cons_succ]
  refine u_take 2 rfl (o := _) rfl (by kernel_rfl) (by kernel_rfl) (by kernel_rfl) (.int .i64 (a : Int)) (fun _ _ _ h => h) (g_value rfl (wanted_plain rfl) (fun f W hW => run_execOp_load (by rfl) (by simp [Act.eval]) (run_load_i64 _ _ W ((Mx.at_ hW).cell 0)))) ?_
  simp only [Act.put, List.getElem_toArray, List.getElem_cons_succ, List.getElem_cons_zero, List.setIfInBounds_toArray, List.set_cons_zero, List.set_cons_succ]
  refine u_take 3 rfl (o := _) rfl (by kernel_rfl) (by kernel_rfl) (by kernel_rfl) (.int .i64 32) (fun _ _ _ h => h) (g_value rfl (wanted_plain rfl) (fun f W hW => run_move (by rfl) (by simp [Act.eval]) W)) ?_
  simp only [Act.put, List.getElem_toArray, List.getElem_cons_succ, List.getElem_cons_zero, List.setIfInBounds_toArray, List.set_cons_zero, List.set_cons_succ]
  refine u_take 4 rfl (o := _) rfl (by kernel_rfl) (by kernel_rfl) (by kernel_rfl) (.int .u32 ((n32 (Sha32.rot x a) : Nat) : Int)) (fun _ _ _ h => h) (g_call rfl (wanted_plain rfl) 82 _ _ rfl #[.int .u32 ((n32 x : Nat) : Int), .int .i64 (a : Int), .int .i64 32] (by simp [Act.eval]) (enter_turned32 _) (fun f W hW => Mx.call hW (turned32_any x a ha W))) ?_
  simp only [Act.put, List.getElem_toArray, List.getElem_cons_succ, List.getElem_cons_zero, List.setIfInBounds_toArray, List.set_cons_zero, List.set_cons_succ]
  refine u_take 5 rfl (o := _) rfl (by kernel_rfl) (by kernel_rfl) (by kernel_rfl) (.int .u32 ((n32 x : Nat) : Int)) (fun _ _ _ h => h) (g_value rfl (wanted_plain rfl) (fun f W hW => run_move (by rfl) (by simp [Act.eval]) W)) ?_
  simp only [Act.put, List.getElem_toArray, List.getElem_cons_succ, List.getElem_cons_zero, List.setIfInBounds_toArray, List.set_cons_zero, List.set_cons_succ]
  refine u_take 6 rfl (o := _) rfl (by kernel_rfl) (by kernel_rfl) (by kernel_rfl) (.pointer (some ⟨w.heap.size, 1, none⟩)) (fun _ _ _ h => h) (g_value rfl (wanted_plain rfl) (fun f W hW => run_indexAddr (by rfl) (by simp [Act.eval]) (by simp [Act.eval]) (index3 w.heap.size 1 (by omega)))) ?_
  simp only [Act.put, List.getElem_toArray, List.getElem_cons_succ, List.getElem_cons_zero, List.setIfInBounds_toArray, List.set_cons_zero, List.set_cons_succ]
  refine u_take 7 rfl (o := _) rfl (by kernel_rfl) (by kernel_rfl) (by kernel_rfl) (.int .i64 (b : Int)) (fun _ _ _ h => h) (g_value rfl (wanted_plain rfl) (fun f W hW => run_execOp_load (by rfl) (by simp [Act.eval]) (run_load_i64 _ _ W ((Mx.at_ hW).cell 1)))) ?_
  simp only [Act.put, List.getElem_toArray, List.getElem_cons_succ, List.getElem_cons_zero, List.setIfInBounds_toArray, List.set_cons_zero, List.set_cons_succ]
  refine u_take 8 rfl (o := _) rfl (by kernel_rfl) (by kernel_rfl) (by kernel_rfl) (.int .i64 32) (fun _ _ _ h => h) (g_value rfl (wanted_plain rfl) (fun f W hW => run_move (by rfl) (by simp [Act.eval]) W)) ?_
  simp only [Act.put, List.getElem_toArray, List.getElem_cons_succ, List.getElem_cons_zero, List.setIfInBounds_toArray, List.set_cons_zero, List.set_cons_succ]
  refine u_take 9 rfl (o := _) rfl (by kernel_rfl) (by kernel_rfl) (by kernel_rfl) (.int .u32 ((n32 (Sha32.rot x b) : Nat) : Int)) (fun _ _ _ h => h) (g_call rfl (wanted_plain rfl) 82 _ _ rfl #[.int .u32 ((n32 x : Nat) : Int), .int .i64 (b : Int), .int .i64 32] (by simp [Act.eval]) (enter_turned32 _) (fun f W hW => Mx.call hW (turned32_any x b hb W))) ?_
  simp only [Act.put, List.getElem_toArray, List.getElem_cons_succ, List.getElem_cons_zero, List.setIfInBounds_toArray, List.set_cons_zero, List.set_cons_succ]
  refine u_take 10 rfl (o := _) rfl (by kernel_rfl) (by kernel_rfl) (by kernel_rfl) (.int .u32 ((n32 (Sha32.rot x a ^^^ Sha32.rot x b) : Nat) : Int)) (fun _ _ _ h => h) (g_value rfl (wanted_plain rfl) (fun f W hW => run_xor32 (by rfl) (Sha32.rot x a) (Sha32.rot x b) (by simp [Act.eval]) (by simp [Act.eval]) W)) ?_
  simp only [Act.put, List.getElem_toArray, List.getElem_cons_succ, List.getElem_cons_zero, List.setIfInBounds_toArray, List.set_cons_zero, List.set_cons_succ]
  refine u_take 11 rfl (o := _) rfl (by kernel_rfl) (by kernel_rfl) (by kernel_rfl) (.int .u32 ((n32 (Sha32.rot x a ^^^ Sha32.rot x b) : Nat) : Int)) (fun _ _ _ h => h) (g_value rfl (wanted_plain rfl) (fun f W hW => run_assign (by rfl) (by simp [Act.eval]) W)) ?_
  simp only [Act.put, List.getElem_toArray, List.getElem_cons_succ, List.getElem_cons_zero, List.setIfInBounds_toArray, List.set_cons_zero, List.set_cons_succ]
  refine u_done (by kernel_rfl) (fun W1 hW1 => ?_) _
  have hW1 : Mx w (three a b c) W1 := hW1
  have c2 : W1.cell? ⟨w.heap.size, 2, none⟩ = some (.int .i64 (c : Int)) := hW1.at_.cell 2
  have v2 : (0 : Int) ≤ (c : Int) := by omega
  cases sh
  · go_wp2_with (go_at_call 82; refine (turned32_any x c hc _).mono ?_; rintro e w5 ⟨rfl, hB5⟩)
    go_ret
    exact ⟨rfl, (hW1.next hB5).old⟩
  · go_wp2
    go_ret
    exact ⟨rfl, hW1.old⟩
theorem enter_turned64 (args : Array Value) (w : World) : (callFunc 83 args).run Tryd.prog w = .ok (.enter 83 args) w := by kernel_rfl
theorem run_xor64 {P : Program} {o : Oper} {ρ : Operand → Value} {x y : Operand} {t rt : TypeId} (ho : o.op = .binOp .xor t x y rt) (a b : UInt64) (hx : ρ x = .int .u64 ((n64 a : Nat) : Int)) (hy : ρ y = .int .u64 ((n64 b : Nat) : Int)) (w : World) :
    (execOp ρ o).run P w = .ok (.value (.int .u64 ((n64 (a ^^^ b) : Nat) : Int))) w := by
  unfold execOp
  simp only [ho, hx, hy]
  simp [go_sem]
set_option maxHeartbeats 2000000 in
set_option maxRecDepth 100000 in
theorem turned64_any (x : UInt64) (n : Nat) (hn : n ≤ 64) (w : World) :
    Calls Tryd.prog 83 #[.int .u64 ((n64 x : Nat) : Int), .int .i64 (n : Int), .int .i64 64] w fun e w' => e = .returned (.int .u64 ((n64 (Sha64.rot x n) : Nat) : Int)) ∧ Below w.heap.size w w' := by
  have e1 : (64 : Int) - (n : Int) = ((64 - n : Nat) : Int) := by omega
  obtain ⟨m, Hm⟩ : ∃ m, Hd (64 - n = m) := ⟨_, ⟨rfl⟩⟩
  rw [Hm.out] at e1
  have v1 : IntKind.i64.wrap (m : Int) = (m : Int) := IntWalk.i64_in _ (by have := Hm.out; omega)
  have v2 : (0 : Int) ≤ (n : Int) := by omega
  have v3 : (0 : Int) ≤ (m : Int) := by omega
  have Hr := hd (show Sha64.rot x n = shr64 x n ||| shl64 x m by rw [Sha64.rot, Hm.out])
  go_enter Tryd.func83, Tryd.ntmps83
  go_wp2
  go_quiet (fail)
  go_wp2
  go_ret
  exact ⟨by rw [Hr.out]; rfl, below_drewN (Below.refl _ _) _⟩
set_option maxHeartbeats 4000000 in
set_option maxRecDepth 100000 in
theorem mixed64_any (x : UInt64) (a b c : Nat) (ha : a ≤ 64) (hb : b ≤ 64) (hc : c ≤ 64) (sh : Bool) (w : World) :
    Calls Tryd.prog 66 #[.int .u64 ((n64 x : Nat) : Int), .int .i64 64, .agg (three a b c), .bool sh] w fun e w' => e = .returned (.int .u64 ((n64 (if sh then Sha64.sig a b c x else Sha64.big a b c x) : Nat) : Int)) ∧ Below w.heap.size w w' := by
  have hS0 : Mx w (three a b c) (w.alloc (.cells (three a b c) 112)) := ⟨Blk.nu rfl, (Below.refl _ _).alloc (Nat.le_refl _) _⟩
  go_enter Tryd.func66, Tryd.ntmps66
  go_wp2
  refine u_start (S := fun _ => Mx w (three a b c)) 99 (by kernel_rfl) (hS0.next (Below.refl _ _).drew) ?_
  refine u_take 0 rfl (o := _) rfl (by kernel_rfl) (by kernel_rfl) (by kernel_rfl) (.int .u64 ((n64 x : Nat) : Int)) (fun _ _ _ h => h) (g_value rfl (wanted_plain rfl) (fun f W hW => run_move (by rfl) (by simp [Act.eval]) W)) ?_
  simp only [Act.put, List.getElem_toArray, List.getElem_cons_succ, List.getElem_cons_zero, List.setIfInBounds_toArray, List.set_cons_zero, List.set_cons_succ]
  refine u_take 1 rfl (o := _) rfl (by kernel_rfl) (by kernel_rfl) (by kernel_rfl) (.pointer (some ⟨w.heap.size, 0, none⟩)) (fun _ _ _ h => h) (g_value rfl (wanted_plain rfl) (fun f W hW => run_indexAddr (by rfl) (by simp [Act.eval]) (by simp [Act.eval]) (index3 w.heap.size 0 (by omega)))) ?_
  simp only [Act.put, List.getElem_toArray, List.getElem_cons_succ, List.getElem_cons_zero, List.setIfInBounds_toArray, List.set_cons_zero, List.set_cons_succ]
  refine u_take 2 rfl (o := _) rfl (by kernel_rfl) (by kernel_rfl) (by kernel_rfl) (.int .i64 (a : Int)) (fun _ _ _ h => h) (g_value rfl (wanted_plain rfl) (fun f W hW => run_execOp_load (by rfl) (by simp [Act.eval]) (run_load_i64 _ _ W ((Mx.at_ hW).cell 0)))) ?_
  simp only [Act.put, List.getElem_toArray, List.getElem_cons_succ, List.getElem_cons_zero, List.setIfInBounds_toArray, List.set_cons_zero, List.set_cons_succ]
  refine u_take 3 rfl (o := _) rfl (by kernel_rfl) (by kernel_rfl) (by kernel_rfl) (.int .i64 64) (fun _ _ _ h => h) (g_value rfl (wanted_plain rfl) (fun f W hW => run_move (by rfl) (by simp [Act.eval]) W)) ?_
  simp only [Act.put, List.getElem_toArray, List.getElem_cons_succ, List.getElem_cons_zero, List.setIfInBounds_toArray, List.set_cons_zero, List.set_cons_succ]
  refine u_take 4 rfl (o := _) rfl (by kernel_rfl) (by kernel_rfl) (by kernel_rfl) (.int .u64 ((n64 (Sha64.rot x a) : Nat) : Int)) (fun _ _ _ h => h) (g_call rfl (wanted_plain rfl) 83 _ _ rfl #[.int .u64 ((n64 x : Nat) : Int), .int .i64 (a : Int), .int .i64 64] (by simp [Act.eval]) (enter_turned64 _) (fun f W hW => Mx.call hW (turned64_any x a ha W))) ?_
  simp only [Act.put, List.getElem_toArray, List.getElem_cons_succ, List.getElem_cons_zero, List.setIfInBounds_toArray, List.set_cons_zero, List.set_cons_succ]
  refine u_take 5 rfl (o := _) rfl (by kernel_rfl) (by kernel_rfl) (by kernel_rfl) (.int .u64 ((n64 x : Nat) : Int)) (fun _ _ _ h => h) (g_value rfl (wanted_plain rfl) (fun f W hW => run_move (by rfl) (by simp [Act.eval]) W)) ?_
  simp only [Act.put, List.getElem_toArray, List.getElem_cons_succ, List.getElem_cons_zero, List.setIfInBounds_toArray, List.set_cons_zero, List.set_cons_succ]
  refine u_take 6 rfl (o := _) rfl (by kernel_rfl) (by kernel_rfl) (by kernel_rfl) (.pointer (some ⟨w.heap.size, 1, none⟩)) (fun _ _ _ h => h) (g_value rfl (wanted_plain rfl) (fun f W hW => run_indexAddr (by rfl) (by simp [Act.eval]) (by simp [Act.eval]) (index3 w.heap.size 1 (by omega)))) ?_
  simp only [Act.put, List.getElem_toArray, List.getElem_cons_succ, List.getElem_cons_zero, List.setIfInBounds_toArray, List.set_cons_zero, List.set_cons_succ]
  refine u_take 7 rfl (o := _) rfl (by kernel_rfl) (by kernel_rfl) (by kernel_rfl) (.int .i64 (b : Int)) (fun _ _ _ h => h) (g_value rfl (wanted_plain rfl) (fun f W hW => run_execOp_load (by rfl) (by simp [Act.eval]) (run_load_i64 _ _ W ((Mx.at_ hW).cell 1)))) ?_
  simp only [Act.put, List.getElem_toArray, List.getElem_cons_succ, List.getElem_cons_zero, List.setIfInBounds_toArray, List.set_cons_zero, List.set_cons_succ]
  refine u_take 8 rfl (o := _) rfl (by kernel_rfl) (by kernel_rfl) (by kernel_rfl) (.int .i64 64) (fun _ _ _ h => h) (g_value rfl (wanted_plain rfl) (fun f W hW => run_move (by rfl) (by simp [Act.eval]) W)) ?_
  simp only [Act.put, List.getElem_toArray, List.getElem_cons_succ, List.getElem_cons_zero, List.setIfInBounds_toArray, List.set_cons_zero, List.set_cons_succ]
  refine u_take 9 rfl (o := _) rfl (by kernel_rfl) (by kernel_rfl) (by kernel_rfl) (.int .u64 ((n64 (Sha64.rot x b) : Nat) : Int)) (fun _ _ _ h => h) (g_call rfl (wanted_plain rfl) 83 _ _ rfl #[.int .u64 ((n64 x : Nat) : Int), .int .i64 (b : Int), .int .i64 64] (by simp [Act.eval]) (enter_turned64 _) (fun f W hW => Mx.call hW (turned64_any x b hb W))) ?_
  simp only [Act.put, List.getElem_toArray, List.getElem_cons_succ, List.getElem_cons_zero, List.setIfInBounds_toArray, List.set_cons_zero, List.set_cons_succ]
  refine u_take 10 rfl (o := _) rfl (by kernel_rfl) (by kernel_rfl) (by kernel_rfl) (.int .u64 ((n64 (Sha64.rot x a ^^^ Sha64.rot x b) : Nat) : Int)) (fun _ _ _ h => h) (g_value rfl (wanted_plain rfl) (fun f W hW => run_xor64 (by rfl) (Sha64.rot x a) (Sha64.rot x b) (by simp [Act.eval]) (by simp [Act.eval]) W)) ?_
  simp only [Act.put, List.getElem_toArray, List.getElem_cons_succ, List.getElem_cons_zero, List.setIfInBounds_toArray, List.set_cons_zero, List.set_cons_succ]
  refine u_take 11 rfl (o := _) rfl (by kernel_rfl) (by kernel_rfl) (by kernel_rfl) (.int .u64 ((n64 (Sha64.rot x a ^^^ Sha64.rot x b) : Nat) : Int)) (fun _ _ _ h => h) (g_value rfl (wanted_plain rfl) (fun f W hW => run_assign (by rfl) (by simp [Act.eval]) W)) ?_
  simp only [Act.put, List.getElem_toArray, List.getElem_cons_succ, List.getElem_cons_zero, List.setIfInBounds_toArray, List.set_cons_zero, List.set_cons_succ]
  refine u_done (by kernel_rfl) (fun W1 hW1 => ?_) _
  have hW1 : Mx w (three a b c) W1 := hW1
  have c2 : W1.cell? ⟨w.heap.size, 2, none⟩ = some (.int .i64 (c : Int)) := hW1.at_.cell 2
  have v2 : (0 : Int) ≤ (c : Int) := by omega
  cases sh
  · go_wp2_with (go_at_call 83; refine (turned64_any x c hc _).mono ?_; rintro e w5 ⟨rfl, hB5⟩)
    go_ret
    exact ⟨rfl, (hW1.next hB5).old⟩
  · go_wp2
    go_ret
    exact ⟨rfl, hW1.old⟩
end Go.Proofs.YthigbggacgiamaaDoor

namespace Go.Proofs.YthigbggacgiamaaDoor
open Go.RowKit
def W32 (x : UInt32) : Value := .int .u32 ((n32 x : Nat) : Int)
def arr32 (l : List UInt32) : Array Value := (l.map W32).toArray
theorem arr32_get (l : List UInt32) (i : Nat) (hi : i < l.length) : (arr32 l)[i]? = some (W32 (Sha32.at_ l i)) := by
  simp [arr32, Sha32.at_, hi]
theorem arr32_set (l : List UInt32) (i : Nat) (x : UInt32) : (arr32 l).setIfInBounds i (W32 x) = arr32 (l.set i x) := by
  apply Array.ext'
  simp [arr32, List.map_set]
theorem arr32_size (l : List UInt32) : (arr32 l).size = l.length := by simp [arr32]
theorem u32_info : (Tryd.prog.info? 32).map (fun i => (i.zero, i.size, i.bytes)) = some (some (.int .u32 0), 1, 4) := by kernel_rfl
/-- A slice value, made by the call itself, holds the words l. -/
structure OwnW32 (w : World) (B : Nat) (v : Value) (l : List UInt32) : Prop where
  own : w.ownsRow B 32 1 v l.length (l.map W32)
/-- A slice value that came in holds the words l. -/
structure ReadsW32 (w : World) (B : Nat) (A : Option Addr) (n : Nat) (l : List UInt32) : Prop where
  len : l.length = n
  is : Reads w B 1 A n (l.map W32)
section
variable {w w' : World} {B z : Nat} {v : Value} {l : List UInt32}
theorem OwnW32.drew (h : OwnW32 w B v l) : OwnW32 w.drew B v l := ⟨h.own.drew⟩
theorem OwnW32.alloc (h : OwnW32 w B v l) (o : Obj) : OwnW32 (w.alloc o) B v l := ⟨h.own.alloc o⟩
theorem OwnW32.moved (h : OwnW32 w B v l) (hg : w.grownBy w' (some z)) (hv : v.ownBlock ≠ some z) : OwnW32 w' B v l := ⟨h.own.kept hg (.inr hv)⟩
theorem OwnW32.later (h : OwnW32 w B v l) (hb : Below w.heap.size w w') : OwnW32 w' B v l := by
  have hg : w.grownBy w' (some w.heap.size) := ⟨hb.os, hb.tape, hb.output, hb.size, fun i hi _ => hb.block i hi⟩
  refine h.moved hg ?_
  intro e
  have := (h.own.lt _ e).2
  omega
theorem OwnW32.lower {B' : Nat} (h : OwnW32 w B v l) (hB : B' ≤ B) : OwnW32 w B' v l :=
  ⟨h.own.1, h.own.2.imp id fun ⟨g, cap, cur, h1, h2, h3⟩ => ⟨g, cap, cur, h1, Nat.le_trans hB h2, h3⟩⟩
theorem OwnW32.far {p : Addr} (h : OwnW32 w B v l) (hp : v.ownBlock ≠ some p.block) (u : Value) : OwnW32 (w.setCell p u) B v l := ⟨ownsRow_setCell_other h.own hp u⟩
theorem OwnW32.form (h : OwnW32 w B v l) (hn : 0 < l.length) : ∃ g cap, v = .slice (some ⟨g, 0, none⟩) l.length cap ∧ B ≤ g ∧ g < w.heap.size ∧ l.length ≤ cap := by
  obtain ⟨_, h2⟩ := h.own
  rcases h2 with ⟨rfl, h0⟩ | ⟨g, cap, cur, rfl, hg, hh, hnc, _⟩
  · have : (l.map W32).length = 0 := by simpa using h0
    simp at this; omega
  · refine ⟨g, cap, rfl, hg, ?_, hnc⟩
    rcases Nat.lt_or_ge g w.heap.size with hlt | hge
    · exact hlt
    · rw [Array.getElem?_eq_none hge] at hh; cases hh
theorem OwnW32.cell {g cap : Nat} (h : OwnW32 w B (.slice (some ⟨g, 0, none⟩) l.length cap) l) (i : Nat) (hi : i < l.length) : w.cell? ⟨g, i, none⟩ = some (W32 (Sha32.at_ l i)) := by
  rw [h.own.cellAt i (by omega), List.getElem?_map, List.getElem?_eq_getElem hi]
  simp [Sha32.at_, hi]
theorem ReadsW32.cell {A : Option Addr} {n k : Nat} (h : ReadsW32 w B A n l) (hk : k < n) : ∃ ad, A = some ad ∧ ad.block < B ∧ w.cell? (ad.add k) = some (W32 (Sha32.at_ l k)) := by
  obtain ⟨ad, u, hA, hb, hu, hc⟩ := h.is.at_ hk
  refine ⟨ad, hA, hb, hc.trans ?_⟩
  have hl : k < l.length := by rw [h.len]; exact hk
  rw [List.getElem?_map, List.getElem?_eq_getElem hl] at hu
  simp at hu
  rw [← hu]; simp [Sha32.at_, hl]
theorem OwnW32.reads_any {A : Option Addr} {n c : Nat} (h : OwnW32 w B (.slice A n c) l) : n = l.length ∧ ReadsW32 w w.heap.size A n l := by
  have hn : n = l.length := by
    rcases h.own.2 with ⟨e, h0⟩ | ⟨g, cap, cur, e, _⟩
    · injection e with _ e2 _; have : l.length = 0 := by simpa using h0
      omega
    · injection e
  subst hn
  exact ⟨rfl, rfl, Reads.of_own h.own⟩
theorem OwnW32.slice (h : OwnW32 w B v l) : ∃ A c, v = .slice A l.length c := by
  rcases h.own.2 with ⟨e, h0⟩ | ⟨g, cap, cur, e, _⟩
  · have : l.length = 0 := by simpa using h0
    exact ⟨none, 0, by rw [e, this]⟩
  · exact ⟨_, _, e⟩
theorem Blk.appendedW32 {g : Nat} {t : TypeId} {cs : Array Value} (h : Blk w g t cs) (ho : OwnW32 w B v l) (hg : w.grownBy w' v.ownBlock) (hne : 32 ≠ t) : Blk w' g t cs :=
  h.grown hg fun e => own_blk_ne ho.own h hne e.symm
theorem ReadsW32.one (w : World) (x : UInt32) : ReadsW32 (w.alloc (.cells #[W32 x] 32)) (w.heap.size + 1) (some ⟨w.heap.size, 0, none⟩) 1 [x] := by
  refine ⟨rfl, rfl, fun _ => ⟨_, rfl, by simp, fun j u hu => ?_⟩⟩
  match j, hu with
  | 0, hu =>
    have hb : Blk (w.alloc (.cells #[W32 x] 32)) w.heap.size 32 #[W32 x] := Blk.nu rfl
    have hc := hb.cell 0
    simp at hu
    rw [← hu]
    exact hc
  | j + 1, hu => simp at hu
theorem run_appendW32 {o : Oper} {ρ : Operand → Value} {s x : Operand} (ho : o.op = .call { callee := .builtin .append, args := #[s, x], argTypes := #[109, 109] })
    (hs : ρ s = v) (hown : OwnW32 w B v l) (B' : Nat) (A : Option Addr) (m c : Nat) (ys : List UInt32) (hx : ρ x = .slice A m c) (hr : ReadsW32 w B' A m ys) (hlen : l.length + ys.length ≤ 1099511627776) (hB : B ≤ w.heap.size) :
    ∃ v' w', (execOp ρ o).run Tryd.prog w = .ok (.value v') w' ∧ OwnW32 w' B v' (l ++ ys) ∧ w.grownBy w' v.ownBlock := by
  obtain ⟨i0, hi0, hz0, hz1, hz2⟩ := info_parts u32_info
  have hm := hr.len
  obtain ⟨v', w', hrun, h1, h2, _⟩ := run_append_any (P := Tryd.prog) (w := w) B 109 o.type 32 i0 _ 1 4 Tryd.underlying109 hi0 hz0 hz1 hz2 rfl (by omega) v l.length (l.map W32) hown.own B' A m c (ys.map W32) hr.is (by intro u hu; obtain ⟨x, _, rfl⟩ := List.mem_map.1 hu; rfl) (by unfold maxLen; omega) (by omega) hB
  refine ⟨v', w', ?_, ⟨?_⟩, h2⟩
  · unfold execOp
    simp only [ho, resolve, invoke, builtin, Sem.run_bind, Sem.run_pure, Result.andThen_ok, List.map_toArray, List.map_cons, List.map_nil, hs, hx, hrun]
  · rw [List.length_append, hm, List.map_append]; exact h1
set_option maxRecDepth 100000 in
/-- .. and what was read before behind the slice's own address is read there still. -/
theorem run_appendKeep32 {o : Oper} {ρ : Operand → Value} {s x : Operand} (ho : o.op = .call { callee := .builtin .append, args := #[s, x], argTypes := #[109, 109] })
    (g cap : Nat) (hs : ρ s = .slice (some ⟨g, 0, none⟩) l.length cap) (hown : OwnW32 w B (.slice (some ⟨g, 0, none⟩) l.length cap) l) (hl : 0 < l.length) (B' : Nat) (ad : Addr) (c : Nat) (y : UInt32) (hx : ρ x = .slice (some ad) 1 c) (hr : ReadsW32 w B' (some ad) 1 [y]) (hlen : l.length + 1 ≤ 1099511627776) (hB : B ≤ w.heap.size) :
    ∃ v' w', (execOp ρ o).run Tryd.prog w = .ok (.value v') w' ∧ OwnW32 w' B v' (l ++ [y]) ∧ w.grownBy w' (some g) ∧ ∀ i, i < l.length → w'.cell? ⟨g, i, none⟩ = some (W32 (Sha32.at_ l i)) := by
  obtain ⟨v', w', hrun, h1, h2⟩ := run_appendW32 ho hs hown B' (some ad) 1 c [y] hx hr hlen hB
  refine ⟨v', w', hrun, h1, h2, fun i hi => ?_⟩
  obtain ⟨i0, hi0, hz0, hz1, hz2⟩ := info_parts u32_info
  obtain ⟨ad', hA, _, hc⟩ := hr.is.2 (by omega)
  injection hA with hA
  subst hA
  have hc1 : ∀ j u, ([y].map W32)[j]? = some u → w.cell? (ad.add j) = some u := hc
  have hone : ∀ u ∈ [y].map W32, u.oneCell' = true := by intro u hu; obtain ⟨x, _, rfl⟩ := List.mem_map.1 hu; rfl
  have hold : ∀ j u, (l.map W32)[j]? = some u → w.cell? ((⟨g, 0, none⟩ : Addr).add j) = some u := fun j u hu => by
    have hj : j < l.length := by
      rcases Nat.lt_or_ge j l.length with h | h
      · exact h
      · rw [List.getElem?_eq_none (by simpa using h)] at hu; cases hu
    have hadd : (⟨g, 0, none⟩ : Addr).add j = ⟨g, j, none⟩ := by unfold Addr.add; split <;> simp_all
    rw [hadd, hown.cell j hj, ← hu, List.getElem?_map, List.getElem?_eq_getElem hj]
    simp [Sha32.at_, hj]
  have hrun2 : (Builtin.append_ #[109, 109] o.type #[.slice (some ⟨g, 0, none⟩) l.length cap, .slice (some ad) 1 c]).run Tryd.prog w = .ok v' w' := by
    unfold execOp at hrun
    simp only [ho, resolve, invoke, builtin, Sem.run_bind, Sem.run_pure, Result.andThen_ok, List.map_toArray, List.map_cons, List.map_nil, hs, hx] at hrun
    cases hq : (Builtin.append_ #[109, 109] o.type #[.slice (some ⟨g, 0, none⟩) l.length cap, .slice (some ad) 1 c]).run Tryd.prog w with
    | halt x w2 => rw [hq] at hrun; simp at hrun
    | ok v2 w2 => rw [hq] at hrun; simp at hrun; rw [hrun.1, hrun.2]
  by_cases hroom : l.length + 1 ≤ cap
  · obtain ⟨g', cap', cur, e', _, hh, _, _, hsz, _⟩ : ∃ g' cap' cur, Value.slice (some ⟨g, 0, none⟩) l.length cap = .slice (some ⟨g', 0, none⟩) l.length cap' ∧ B ≤ g' ∧ w.heap[g']? = some (.cells cur 32 (0, 0)) ∧ l.length ≤ cap' ∧ cap' ≤ maxLen ∧ cur.size = cap' * 1 ∧ True := by
      rcases hown.own.2 with ⟨e, _⟩ | ⟨g', cap', cur, e, h1, h2, h3, h4, h5, _⟩
      · cases e
      · exact ⟨g', cap', cur, e, h1, h2, h3, h4, h5, trivial⟩
    injection e' with e1 _ e3
    injection e1 with e1
    injection e1 with e1
    subst e1
    subst e3
    have hblk : Blk w g 32 cur := ⟨hh⟩
    have hrun3 := run_append_room_cells (P := Tryd.prog) (w := w) 109 o.type 32 i0 Tryd.underlying109 hi0 g 0 l.length cap ad 1 c ([y].map W32) (by rw [hz1]; rfl) hc1 hone hroom
      (fun j hj => by
        have : j = 0 := by simpa using hj
        subst this
        rw [hz1, hblk.cell, Array.getElem?_eq_getElem (by omega)]; rfl)
      (fun j _ => hown.own.frozenAt _)
    rw [hrun2] at hrun3
    injection hrun3 with hv hw
    subst hv
    obtain ⟨hn, _⟩ := h1.reads_any
    have h1' : OwnW32 w' B (.slice (some ⟨g, 0, none⟩) (l ++ [y]).length cap) (l ++ [y]) := by rw [← hn]; exact h1
    rw [h1'.cell i (by rw [List.length_append]; omega)]
    simp only [Sha32.at_]
    rw [List.getD_eq_getElem?_getD, List.getD_eq_getElem?_getD, List.getElem?_append_left hi]
  · obtain ⟨v2, w2, hrun3, _, hg3⟩ := run_append_arg_grows (P := Tryd.prog) (w := w) 109 o.type 32 i0 _ 1 4 Tryd.underlying109 hi0 hz0 hz1 hz2 rfl (by omega) ⟨g, 0, none⟩ l.length cap (l.map W32) (by simp) hold ad 1 c ([y].map W32) rfl hc1 (by omega) (by unfold maxLen; omega) (by omega)
    rw [hrun2] at hrun3
    injection hrun3 with _ hw
    subst hw
    rw [World.cell?_of_block (hg3.block g (hown.own.lt g rfl).2 (by simp))]
    exact hown.cell i hi
end
theorem run_appendKeepV32 {w : World} {B : Nat} {l : List UInt32} {γ : Type} {C : Value → World → γ → Prop} {o : Oper} {ρ : Operand → Value} {s x : Operand} (ho : o.op = .call { callee := .builtin .append, args := #[s, x], argTypes := #[109, 109] })
    (g cap : Nat) (hs : ρ s = .slice (some ⟨g, 0, none⟩) l.length cap) (hown : OwnW32 w B (.slice (some ⟨g, 0, none⟩) l.length cap) l) (hl : 0 < l.length) (B' : Nat) (ad : Addr) (c : Nat) (y : UInt32) (hx : ρ x = .slice (some ad) 1 c) (hr : ReadsW32 w B' (some ad) 1 [y]) (hlen : l.length + 1 ≤ 1099511627776) (hB : B ≤ w.heap.size)
    (h : ∀ v' w', OwnW32 w' B v' (l ++ [y]) → w.grownBy w' (some g) → (∀ i, i < l.length → w'.cell? ⟨g, i, none⟩ = some (W32 (Sha32.at_ l i))) → ∃ q, C v' w' q) : ∃ v' w' q, (execOp ρ o).run Tryd.prog w = .ok (.value v') w' ∧ C v' w' q := by
  obtain ⟨v', w', h0, h1, h2, h3⟩ := run_appendKeep32 ho g cap hs hown hl B' ad c y hx hr hlen hB
  obtain ⟨q, hq⟩ := h v' w' h1 h2 h3
  exact ⟨v', w', q, h0, hq⟩
section
variable {w : World} {ops : Array Oper} {rest : List Oper} {o : Oper} {a : Act} {Q : Exit → Act → World → Prop}
theorem wpl_appendW32 (hgd : o.guard = none) (s x : Operand) (ho : o.op = .call { callee := .builtin .append, args := #[s, x], argTypes := #[109, 109] })
    (B : Nat) (v : Value) (l : List UInt32) (hs : a.eval s = v) (hown : OwnW32 w B v l) (B' : Nat) (A : Option Addr) (m c : Nat) (ys : List UInt32) (hx : a.eval x = .slice A m c) (hr : ReadsW32 w B' A m ys)
    (hlen : l.length + ys.length ≤ 1099511627776) (hB : B ≤ w.heap.size)
    (h : ∀ v' w', OwnW32 w' B v' (l ++ ys) → w.grownBy w' v.ownBlock → wpList Tryd.prog ops Q rest (a.put o.dst v') w') : wpList Tryd.prog ops Q (o :: rest) a w := by
  obtain ⟨v', w', hrun, h1, h2⟩ := run_appendW32 (ρ := a.eval) ho hs hown B' A m c ys hx hr hlen hB
  exact wpList_plain hgd fun K hK => by
    unfold Oper.wp
    rw [hrun]
    exact hK _ _ (h v' w' h1 h2)
end
theorem run_buildW32 {w : World} {o : Oper} {ρ : Operand → Value} {x : Operand} (ho : o.op = .buildSlice 109 1 #[(0, x)]) (y : UInt32) (hx : ρ x = .int .u32 ((n32 y : Nat) : Int)) :
    (execOp ρ o).run Tryd.prog w = .ok (.value (.slice (some ⟨w.heap.size, 0, none⟩) 1 1)) (w.alloc (.cells #[W32 y] 32)) := by
  unfold execOp
  simp only [ho]
  simp [go_sem, hx]
  rfl

def W64 (x : UInt64) : Value := .int .u64 ((n64 x : Nat) : Int)
def arr64 (l : List UInt64) : Array Value := (l.map W64).toArray
theorem arr64_get (l : List UInt64) (i : Nat) (hi : i < l.length) : (arr64 l)[i]? = some (W64 (Sha64.at_ l i)) := by
  simp [arr64, Sha64.at_, hi]
theorem arr64_set (l : List UInt64) (i : Nat) (x : UInt64) : (arr64 l).setIfInBounds i (W64 x) = arr64 (l.set i x) := by
  apply Array.ext'
  simp [arr64, List.map_set]
theorem arr64_size (l : List UInt64) : (arr64 l).size = l.length := by simp [arr64]
theorem u64_info : (Tryd.prog.info? 31).map (fun i => (i.zero, i.size, i.bytes)) = some (some (.int .u64 0), 1, 8) := by kernel_rfl
/-- A slice value, made by the call itself, holds the words l. -/
structure OwnW64 (w : World) (B : Nat) (v : Value) (l : List UInt64) : Prop where
  own : w.ownsRow B 31 1 v l.length (l.map W64)
/-- A slice value that came in holds the words l. -/
structure ReadsW64 (w : World) (B : Nat) (A : Option Addr) (n : Nat) (l : List UInt64) : Prop where
  len : l.length = n
  is : Reads w B 1 A n (l.map W64)
section
variable {w w' : World} {B z : Nat} {v : Value} {l : List UInt64}
theorem OwnW64.drew (h : OwnW64 w B v l) : OwnW64 w.drew B v l := ⟨h.own.drew⟩
theorem OwnW64.alloc (h : OwnW64 w B v l) (o : Obj) : OwnW64 (w.alloc o) B v l := ⟨h.own.alloc o⟩
theorem OwnW64.moved (h : OwnW64 w B v l) (hg : w.grownBy w' (some z)) (hv : v.ownBlock ≠ some z) : OwnW64 w' B v l := ⟨h.own.kept hg (.inr hv)⟩
theorem OwnW64.later (h : OwnW64 w B v l) (hb : Below w.heap.size w w') : OwnW64 w' B v l := by
  have hg : w.grownBy w' (some w.heap.size) := ⟨hb.os, hb.tape, hb.output, hb.size, fun i hi _ => hb.block i hi⟩
  refine h.moved hg ?_
  intro e
  have := (h.own.lt _ e).2
  omega
theorem OwnW64.lower {B' : Nat} (h : OwnW64 w B v l) (hB : B' ≤ B) : OwnW64 w B' v l :=
  ⟨h.own.1, h.own.2.imp id fun ⟨g, cap, cur, h1, h2, h3⟩ => ⟨g, cap, cur, h1, Nat.le_trans hB h2, h3⟩⟩
theorem OwnW64.far {p : Addr} (h : OwnW64 w B v l) (hp : v.ownBlock ≠ some p.block) (u : Value) : OwnW64 (w.setCell p u) B v l := ⟨ownsRow_setCell_other h.own hp u⟩
theorem OwnW64.form (h : OwnW64 w B v l) (hn : 0 < l.length) : ∃ g cap, v = .slice (some ⟨g, 0, none⟩) l.length cap ∧ B ≤ g ∧ g < w.heap.size ∧ l.length ≤ cap := by
  obtain ⟨_, h2⟩ := h.own
  rcases h2 with ⟨rfl, h0⟩ | ⟨g, cap, cur, rfl, hg, hh, hnc, _⟩
  · have : (l.map W64).length = 0 := by simpa using h0
    simp at this; omega
  · refine ⟨g, cap, rfl, hg, ?_, hnc⟩
    rcases Nat.lt_or_ge g w.heap.size with hlt | hge
    · exact hlt
    · rw [Array.getElem?_eq_none hge] at hh; cases hh
theorem OwnW64.cell {g cap : Nat} (h : OwnW64 w B (.slice (some ⟨g, 0, none⟩) l.length cap) l) (i : Nat) (hi : i < l.length) : w.cell? ⟨g, i, none⟩ = some (W64 (Sha64.at_ l i)) := by
  rw [h.own.cellAt i (by omega), List.getElem?_map, List.getElem?_eq_getElem hi]
  simp [Sha64.at_, hi]
theorem ReadsW64.cell {A : Option Addr} {n k : Nat} (h : ReadsW64 w B A n l) (hk : k < n) : ∃ ad, A = some ad ∧ ad.block < B ∧ w.cell? (ad.add k) = some (W64 (Sha64.at_ l k)) := by
  obtain ⟨ad, u, hA, hb, hu, hc⟩ := h.is.at_ hk
  refine ⟨ad, hA, hb, hc.trans ?_⟩
  have hl : k < l.length := by rw [h.len]; exact hk
  rw [List.getElem?_map, List.getElem?_eq_getElem hl] at hu
  simp at hu
  rw [← hu]; simp [Sha64.at_, hl]
theorem OwnW64.reads_any {A : Option Addr} {n c : Nat} (h : OwnW64 w B (.slice A n c) l) : n = l.length ∧ ReadsW64 w w.heap.size A n l := by
  have hn : n = l.length := by
    rcases h.own.2 with ⟨e, h0⟩ | ⟨g, cap, cur, e, _⟩
    · injection e with _ e2 _; have : l.length = 0 := by simpa using h0
      omega
    · injection e
  subst hn
  exact ⟨rfl, rfl, Reads.of_own h.own⟩
theorem OwnW64.slice (h : OwnW64 w B v l) : ∃ A c, v = .slice A l.length c := by
  rcases h.own.2 with ⟨e, h0⟩ | ⟨g, cap, cur, e, _⟩
  · have : l.length = 0 := by simpa using h0
    exact ⟨none, 0, by rw [e, this]⟩
  · exact ⟨_, _, e⟩
theorem Blk.appendedW64 {g : Nat} {t : TypeId} {cs : Array Value} (h : Blk w g t cs) (ho : OwnW64 w B v l) (hg : w.grownBy w' v.ownBlock) (hne : 31 ≠ t) : Blk w' g t cs :=
  h.grown hg fun e => own_blk_ne ho.own h hne e.symm
theorem ReadsW64.one (w : World) (x : UInt64) : ReadsW64 (w.alloc (.cells #[W64 x] 31)) (w.heap.size + 1) (some ⟨w.heap.size, 0, none⟩) 1 [x] := by
  refine ⟨rfl, rfl, fun _ => ⟨_, rfl, by simp, fun j u hu => ?_⟩⟩
  match j, hu with
  | 0, hu =>
    have hb : Blk (w.alloc (.cells #[W64 x] 31)) w.heap.size 31 #[W64 x] := Blk.nu rfl
    have hc := hb.cell 0
    simp at hu
    rw [← hu]
    exact hc
  | j + 1, hu => simp at hu
theorem run_appendW64 {o : Oper} {ρ : Operand → Value} {s x : Operand} (ho : o.op = .call { callee := .builtin .append, args := #[s, x], argTypes := #[117, 117] })
    (hs : ρ s = v) (hown : OwnW64 w B v l) (B' : Nat) (A : Option Addr) (m c : Nat) (ys : List UInt64) (hx : ρ x = .slice A m c) (hr : ReadsW64 w B' A m ys) (hlen : l.length + ys.length ≤ 1099511627776) (hB : B ≤ w.heap.size) :
    ∃ v' w', (execOp ρ o).run Tryd.prog w = .ok (.value v') w' ∧ OwnW64 w' B v' (l ++ ys) ∧ w.grownBy w' v.ownBlock := by
  obtain ⟨i0, hi0, hz0, hz1, hz2⟩ := info_parts u64_info
  have hm := hr.len
  obtain ⟨v', w', hrun, h1, h2, _⟩ := run_append_any (P := Tryd.prog) (w := w) B 117 o.type 31 i0 _ 1 8 Tryd.underlying117 hi0 hz0 hz1 hz2 rfl (by omega) v l.length (l.map W64) hown.own B' A m c (ys.map W64) hr.is (by intro u hu; obtain ⟨x, _, rfl⟩ := List.mem_map.1 hu; rfl) (by unfold maxLen; omega) (by omega) hB
  refine ⟨v', w', ?_, ⟨?_⟩, h2⟩
  · unfold execOp
    simp only [ho, resolve, invoke, builtin, Sem.run_bind, Sem.run_pure, Result.andThen_ok, List.map_toArray, List.map_cons, List.map_nil, hs, hx, hrun]
  · rw [List.length_append, hm, List.map_append]; exact h1
set_option maxRecDepth 100000 in
/-- .. and what was read before behind the slice's own address is read there still. -/
theorem run_appendKeep64 {o : Oper} {ρ : Operand → Value} {s x : Operand} (ho : o.op = .call { callee := .builtin .append, args := #[s, x], argTypes := #[117, 117] })
    (g cap : Nat) (hs : ρ s = .slice (some ⟨g, 0, none⟩) l.length cap) (hown : OwnW64 w B (.slice (some ⟨g, 0, none⟩) l.length cap) l) (hl : 0 < l.length) (B' : Nat) (ad : Addr) (c : Nat) (y : UInt64) (hx : ρ x = .slice (some ad) 1 c) (hr : ReadsW64 w B' (some ad) 1 [y]) (hlen : l.length + 1 ≤ 1099511627776) (hB : B ≤ w.heap.size) :
    ∃ v' w', (execOp ρ o).run Tryd.prog w = .ok (.value v') w' ∧ OwnW64 w' B v' (l ++ [y]) ∧ w.grownBy w' (some g) ∧ ∀ i, i < l.length → w'.cell? ⟨g, i, none⟩ = some (W64 (Sha64.at_ l i)) := by
  obtain ⟨v', w', hrun, h1, h2⟩ := run_appendW64 ho hs hown B' (some ad) 1 c [y] hx hr hlen hB
  refine ⟨v', w', hrun, h1, h2, fun i hi => ?_⟩
  obtain ⟨i0, hi0, hz0, hz1, hz2⟩ := info_parts u64_info
  obtain ⟨ad', hA, _, hc⟩ := hr.is.2 (by omega)
  injection hA with hA
  subst hA
  have hc1 : ∀ j u, ([y].map W64)[j]? = some u → w.cell? (ad.add j) = some u := hc
  have hone : ∀ u ∈ [y].map W64, u.oneCell' = true := by intro u hu; obtain ⟨x, _, rfl⟩ := List.mem_map.1 hu; rfl
  have hold : ∀ j u, (l.map W64)[j]? = some u → w.cell? ((⟨g, 0, none⟩ : Addr).add j) = some u := fun j u hu => by
    have hj : j < l.length := by
      rcases Nat.lt_or_ge j l.length with h | h
      · exact h
      · rw [List.getElem?_eq_none (by simpa using h)] at hu; cases hu
    have hadd : (⟨g, 0, none⟩ : Addr).add j = ⟨g, j, none⟩ := by unfold Addr.add; split <;> simp_all
    rw [hadd, hown.cell j hj, ← hu, List.getElem?_map, List.getElem?_eq_getElem hj]
    simp [Sha64.at_, hj]
  have hrun2 : (Builtin.append_ #[117, 117] o.type #[.slice (some ⟨g, 0, none⟩) l.length cap, .slice (some ad) 1 c]).run Tryd.prog w = .ok v' w' := by
    unfold execOp at hrun
    simp only [ho, resolve, invoke, builtin, Sem.run_bind, Sem.run_pure, Result.andThen_ok, List.map_toArray, List.map_cons, List.map_nil, hs, hx] at hrun
    cases hq : (Builtin.append_ #[117, 117] o.type #[.slice (some ⟨g, 0, none⟩) l.length cap, .slice (some ad) 1 c]).run Tryd.prog w with
    | halt x w2 => rw [hq] at hrun; simp at hrun
    | ok v2 w2 => rw [hq] at hrun; simp at hrun; rw [hrun.1, hrun.2]
  by_cases hroom : l.length + 1 ≤ cap
  · obtain ⟨g', cap', cur, e', _, hh, _, _, hsz, _⟩ : ∃ g' cap' cur, Value.slice (some ⟨g, 0, none⟩) l.length cap = .slice (some ⟨g', 0, none⟩) l.length cap' ∧ B ≤ g' ∧ w.heap[g']? = some (.cells cur 31 (0, 0)) ∧ l.length ≤ cap' ∧ cap' ≤ maxLen ∧ cur.size = cap' * 1 ∧ True := by
      rcases hown.own.2 with ⟨e, _⟩ | ⟨g', cap', cur, e, h1, h2, h3, h4, h5, _⟩
      · cases e
      · exact ⟨g', cap', cur, e, h1, h2, h3, h4, h5, trivial⟩
    injection e' with e1 _ e3
    injection e1 with e1
    injection e1 with e1
    subst e1
    subst e3
    have hblk : Blk w g 31 cur := ⟨hh⟩
    have hrun3 := run_append_room_cells (P := Tryd.prog) (w := w) 117 o.type 31 i0 Tryd.underlying117 hi0 g 0 l.length cap ad 1 c ([y].map W64) (by rw [hz1]; rfl) hc1 hone hroom
      (fun j hj => by
        have : j = 0 := by simpa using hj
        subst this
        rw [hz1, hblk.cell, Array.getElem?_eq_getElem (by omega)]; rfl)
      (fun j _ => hown.own.frozenAt _)
    rw [hrun2] at hrun3
    injection hrun3 with hv hw
    subst hv
    obtain ⟨hn, _⟩ := h1.reads_any
    have h1' : OwnW64 w' B (.slice (some ⟨g, 0, none⟩) (l ++ [y]).length cap) (l ++ [y]) := by rw [← hn]; exact h1
    rw [h1'.cell i (by rw [List.length_append]; omega)]
    simp only [Sha64.at_]
    rw [List.getD_eq_getElem?_getD, List.getD_eq_getElem?_getD, List.getElem?_append_left hi]
  · obtain ⟨v2, w2, hrun3, _, hg3⟩ := run_append_arg_grows (P := Tryd.prog) (w := w) 117 o.type 31 i0 _ 1 8 Tryd.underlying117 hi0 hz0 hz1 hz2 rfl (by omega) ⟨g, 0, none⟩ l.length cap (l.map W64) (by simp) hold ad 1 c ([y].map W64) rfl hc1 (by omega) (by unfold maxLen; omega) (by omega)
    rw [hrun2] at hrun3
    injection hrun3 with _ hw
    subst hw
    rw [World.cell?_of_block (hg3.block g (hown.own.lt g rfl).2 (by simp))]
    exact hown.cell i hi
end
theorem run_appendKeepV64 {w : World} {B : Nat} {l : List UInt64} {γ : Type} {C : Value → World → γ → Prop} {o : Oper} {ρ : Operand → Value} {s x : Operand} (ho : o.op = .call { callee := .builtin .append, args := #[s, x], argTypes := #[117, 117] })
    (g cap : Nat) (hs : ρ s = .slice (some ⟨g, 0, none⟩) l.length cap) (hown : OwnW64 w B (.slice (some ⟨g, 0, none⟩) l.length cap) l) (hl : 0 < l.length) (B' : Nat) (ad : Addr) (c : Nat) (y : UInt64) (hx : ρ x = .slice (some ad) 1 c) (hr : ReadsW64 w B' (some ad) 1 [y]) (hlen : l.length + 1 ≤ 1099511627776) (hB : B ≤ w.heap.size)
    (h : ∀ v' w', OwnW64 w' B v' (l ++ [y]) → w.grownBy w' (some g) → (∀ i, i < l.length → w'.cell? ⟨g, i, none⟩ = some (W64 (Sha64.at_ l i))) → ∃ q, C v' w' q) : ∃ v' w' q, (execOp ρ o).run Tryd.prog w = .ok (.value v') w' ∧ C v' w' q := by
  obtain ⟨v', w', h0, h1, h2, h3⟩ := run_appendKeep64 ho g cap hs hown hl B' ad c y hx hr hlen hB
  obtain ⟨q, hq⟩ := h v' w' h1 h2 h3
  exact ⟨v', w', q, h0, hq⟩
section
variable {w : World} {ops : Array Oper} {rest : List Oper} {o : Oper} {a : Act} {Q : Exit → Act → World → Prop}
theorem wpl_appendW64 (hgd : o.guard = none) (s x : Operand) (ho : o.op = .call { callee := .builtin .append, args := #[s, x], argTypes := #[117, 117] })
    (B : Nat) (v : Value) (l : List UInt64) (hs : a.eval s = v) (hown : OwnW64 w B v l) (B' : Nat) (A : Option Addr) (m c : Nat) (ys : List UInt64) (hx : a.eval x = .slice A m c) (hr : ReadsW64 w B' A m ys)
    (hlen : l.length + ys.length ≤ 1099511627776) (hB : B ≤ w.heap.size)
    (h : ∀ v' w', OwnW64 w' B v' (l ++ ys) → w.grownBy w' v.ownBlock → wpList Tryd.prog ops Q rest (a.put o.dst v') w') : wpList Tryd.prog ops Q (o :: rest) a w := by
  obtain ⟨v', w', hrun, h1, h2⟩ := run_appendW64 (ρ := a.eval) ho hs hown B' A m c ys hx hr hlen hB
  exact wpList_plain hgd fun K hK => by
    unfold Oper.wp
    rw [hrun]
    exact hK _ _ (h v' w' h1 h2)
end
theorem run_buildW64 {w : World} {o : Oper} {ρ : Operand → Value} {x : Operand} (ho : o.op = .buildSlice 117 1 #[(0, x)]) (y : UInt64) (hx : ρ x = .int .u64 ((n64 y : Nat) : Int)) :
    (execOp ρ o).run Tryd.prog w = .ok (.value (.slice (some ⟨w.heap.size, 0, none⟩) 1 1)) (w.alloc (.cells #[W64 y] 31)) := by
  unfold execOp
  simp only [ho]
  simp [go_sem, hx]
  rfl

end Go.Proofs.YthigbggacgiamaaDoor

namespace Go.Proofs.YthigbggacgiamaaDoor
open Go.RowKit
/-- Below block B all is as it was, but block g. -/
structure Kept (B g : Nat) (w w' : World) : Prop where
  os : w'.os = w.os
  tape : w'.tape = w.tape
  output : w'.output = w.output
  size : w.heap.size ≤ w'.heap.size
  block : ∀ k, k < B → k ≠ g → w'.heap[k]? = w.heap[k]?
section
variable {B g : Nat} {w w' w'' : World}
theorem Kept.refl (B g : Nat) (w : World) : Kept B g w w := ⟨rfl, rfl, rfl, Nat.le_refl _, fun _ _ _ => rfl⟩
theorem Kept.trans (h : Kept B g w w') (h' : Kept B g w' w'') : Kept B g w w'' := ⟨h'.os.trans h.os, h'.tape.trans h.tape, h'.output.trans h.output, Nat.le_trans h.size h'.size, fun k hk hg => (h'.block k hk hg).trans (h.block k hk hg)⟩
theorem below_kept {B' : Nat} (h : Below B' w w') (hB : B ≤ B') : Kept B g w w' := ⟨h.os, h.tape, h.output, h.size, fun k hk _ => h.block k (by omega)⟩
theorem grown_kept {row : Option Nat} (h : w.grownBy w' row) (hr : ∀ k, row = some k → B ≤ k ∨ k = g) (hB : B ≤ w.heap.size) : Kept B g w w' :=
  ⟨h.os, h.tape, h.output, h.size, fun k hk hg => h.block k (by omega) (fun e => by rcases hr k e.symm with h1 | h1 <;> omega)⟩
theorem Kept.grown (h : Kept w.heap.size g w w') : w.grownBy w' (some g) := ⟨h.os, h.tape, h.output, h.size, fun k hk hg => h.block k hk (fun e => hg (by rw [e]))⟩
theorem Blk.kept {z : Nat} {t : TypeId} {cs : Array Value} (h : Blk w z t cs) (hk : Kept B g w w') (hz : z < B) (hne : z ≠ g) : Blk w' z t cs := ⟨(hk.block z hz hne).trans h.is⟩
end
theorem run_subI {P : Program} {w : World} {o : Oper} {ρ : Operand → Value} {x y : Operand} {t rt : TypeId} (ho : o.op = .binOp .sub t x y rt) (i j k : Int) (hx : ρ x = .int .i64 i) (hy : ρ y = .int .i64 j) (hk : IntKind.i64.wrap (i - j) = k) : (execOp ρ o).run P w = .ok (.value (.int .i64 k)) w := by
  subst hk
  unfold execOp
  simp only [ho, hx, hy]
  simp [go_sem]
theorem sub_nat (n k m : Nat) (h : n = m + k) (hn : n < 9223372036854775808) : IntKind.i64.wrap ((n : Int) - (k : Int)) = (m : Int) := by
  have e : (n : Int) - (k : Int) = (m : Int) := by omega
  rw [e]; exact IntWalk.i64_in _ (by omega)
theorem field_kind (z : Nat) (i : Nat) (o : Nat) (h : (i, o) = (0, 0) ∨ (i, o) = (1, 1) ∨ (i, o) = (2, 4) ∨ (i, o) = (3, 7) ∨ (i, o) = (4, 10)) (w : World) : (Instr.fieldAt 114 (.pointer (some ⟨z, 0, none⟩)) i).run Tryd.prog w = .ok (.pointer (some ⟨z, o, none⟩)) w := by
  rcases h with h | h | h | h | h <;> (injection h with h1 h2; subst h1; subst h2; kernel_rfl)
theorem agg3 : AggT Tryd.prog 112 3 := ⟨by kernel_rfl, by kernel_rfl⟩
theorem run_fieldAddr {P : Program} {w : World} {o : Oper} {ρ : Operand → Value} {t : TypeId} {x : Operand} {i : Nat} {v r : Value} (ho : o.op = .fieldAddr t x i) (hx : ρ x = v) (h : ∀ w, (Instr.fieldAt t v i).run P w = .ok r w) : (execOp ρ o).run P w = .ok (.value r) w := by
  unfold execOp
  simp only [ho, hx, Sem.run_bind, h, Result.andThen_ok]
  rfl
def kind32 : Array Value := #[.int .i64 32, .int .i64 7, .int .i64 18, .int .i64 3, .int .i64 17, .int .i64 19, .int .i64 10, .int .i64 2, .int .i64 13, .int .i64 22, .int .i64 6, .int .i64 11, .int .i64 25]
theorem mid32_get (pre post : Array Value) (l : List UInt32) (i : Nat) (hi : i < l.length) : (pre ++ arr32 l ++ post)[pre.size + i]? = some (W32 (Sha32.at_ l i)) := by
  rw [Array.getElem?_append_left (by rw [Array.size_append, arr32_size]; omega), Array.getElem?_append_right (by omega), Nat.add_sub_cancel_left, arr32_get l i hi]
theorem mid32_set (pre post : Array Value) (l : List UInt32) (i : Nat) (x : UInt32) (hi : i < l.length) : (pre ++ arr32 l ++ post).setIfInBounds (pre.size + i) (W32 x) = pre ++ arr32 (l.set i x) ++ post := by
  rw [Array.setIfInBounds_append_left (by rw [Array.size_append, arr32_size]; omega), Array.setIfInBounds_append_right (by omega), Nat.add_sub_cancel_left, arr32_set]
theorem index_sl32 (g n c i : Nat) (hi : i < n) (w : World) : (Instr.indexAt 109 (.slice (some ⟨g, 0, none⟩) n c) (.int .i64 (i : Int))).run Tryd.prog w = .ok (.pointer (some ⟨g, i, none⟩)) w := by
  have h1 : (i : Int) < (n : Int) := by omega
  have h2 : (0 : Int) ≤ (i : Int) := by omega
  have h3 : ¬ n ≤ i := by omega
  have hs : (Tryd.prog.info? 32).map (·.size) = some 1 := by kernel_rfl
  simp [Instr.indexAt, go_sem, run_underlying Tryd.underlying109, run_sizeOf hs, h1, h2, h3, hi, asIntOf, Addr.add_lit]
theorem run_load_u32 (ad : Addr) (v : Value) (w : World) (h : w.cell? ad = some v) : (loadVar 32 ad).run Tryd.prog w = .ok v w := by
  simp [loadVar, go_sem, h]
theorem run_add32 {P : Program} {o : Oper} {ρ : Operand → Value} {x y : Operand} {t rt : TypeId} (ho : o.op = .binOp .add t x y rt) (a b : UInt32) (hx : ρ x = .int .u32 ((n32 a : Nat) : Int)) (hy : ρ y = .int .u32 ((n32 b : Nat) : Int)) (w : World) :
    (execOp ρ o).run P w = .ok (.value (.int .u32 ((n32 (a + b) : Nat) : Int))) w := by
  unfold execOp
  simp only [ho, hx, hy]
  simp [go_sem]
theorem run_and32 {P : Program} {o : Oper} {ρ : Operand → Value} {x y : Operand} {t rt : TypeId} (ho : o.op = .binOp .and t x y rt) (a b : UInt32) (hx : ρ x = .int .u32 ((n32 a : Nat) : Int)) (hy : ρ y = .int .u32 ((n32 b : Nat) : Int)) (w : World) :
    (execOp ρ o).run P w = .ok (.value (.int .u32 ((n32 (a &&& b) : Nat) : Int))) w := by
  unfold execOp
  simp only [ho, hx, hy]
  simp [go_sem]
theorem run_index_arr32 {w : World} (l : List UInt32) (hl : l.length = 8) (j : Nat) (hj : j < 8) :
    (Instr.index 78 (.agg (arr32 l)) (.int .i64 (j : Int))).run Tryd.prog w = .ok (W32 (Sha32.at_ l j)) w := by
  have hag : (isAgg 32).run Tryd.prog w = .ok false w := by simp [go_sem]
  have hs : (Tryd.prog.info? 32).map (·.size) = some 1 := by kernel_rfl
  have hg := arr32_get l j (by omega)
  have hjn : (j : Int) < 8 := by omega
  simp [Instr.index, asIntOf, run_underlying Tryd.underlying78, run_sizeOf hs, Go.part, hag, hjn, hg, hj]
  all_goals omega
theorem enter_mixed32 (args : Array Value) (w : World) : (callFunc 65 args).run Tryd.prog w = .ok (.enter 65 args) w := by kernel_rfl
/-- What stays while a block is taken in: the state, the table, the kind. -/
structure BkE32 (w : World) (Bs g gk z : Nat) (cs : Array Value) (W : World) : Prop where
  st : Blk W g 81 cs
  tb : Blk W gk 111 (arr32 Sha32.K)
  kd : Blk W z 114 kind32
  kept : Kept Bs g w W
  sz : Bs ≤ W.heap.size
section
variable {w : World} {Bs g gk z : Nat} {cs : Array Value} {W w' : World}
theorem BkE32.next (h : BkE32 w Bs g gk z cs W) (hb : Below W.heap.size W w') : BkE32 w Bs g gk z cs w' :=
  ⟨h.st.below hb h.st.lt, h.tb.below hb h.tb.lt, h.kd.below hb h.kd.lt, h.kept.trans (below_kept hb h.sz), Nat.le_trans h.sz hb.size⟩
theorem BkE32.appended {v : Value} {l : List UInt32} (h : BkE32 w Bs g gk z cs W) (ho : OwnW32 W Bs v l) {gv : Nat} (hv : v.ownBlock = some gv) (hg : W.grownBy w' (some gv)) : BkE32 w Bs g gk z cs w' := by
  have hg' : W.grownBy w' v.ownBlock := by rw [hv]; exact hg
  exact ⟨h.st.appendedW32 ho hg' (by decide), h.tb.appendedW32 ho hg' (by decide), h.kd.appendedW32 ho hg' (by decide), h.kept.trans (grown_kept hg (fun k hk => .inl (by injection hk with hk; subst hk; exact (ho.own.lt _ hv).1)) h.sz), Nat.le_trans h.sz hg.size⟩
end
/-- .. and the schedule. -/
structure BkR32 (w : World) (Bs g gk z : Nat) (cs : Array Value) (gv cap : Nat) (l : List UInt32) (W : World) : Prop where
  env : BkE32 w Bs g gk z cs W
  own : OwnW32 W Bs (.slice (some ⟨gv, 0, none⟩) l.length cap) l
section
variable {w : World} {Bs g gk z : Nat} {cs : Array Value} {gv cap : Nat} {l : List UInt32} {W w' : World}
theorem BkR32.next (h : BkR32 w Bs g gk z cs gv cap l W) (hb : Below W.heap.size W w') : BkR32 w Bs g gk z cs gv cap l w' := ⟨h.env.next hb, h.own.later hb⟩
theorem BkR32.call {P : Program} {f : FuncId} {args : Array Value} {v : Value} (h : BkR32 w Bs g gk z cs gv cap l W) (hc : Calls P f args W fun e w' => e = .returned v ∧ Below W.heap.size W w') :
    Calls P f args W fun e w' => e = .returned v ∧ BkR32 w Bs g gk z cs gv cap l w' := hc.mono fun _ _ ⟨he, hb⟩ => ⟨he, h.next hb⟩
end
/-- The schedule's region: before, with the one word laid, with it behind. -/
structure BkV32 (w : World) (Bs g gk z : Nat) (cs : Array Value) (gv cap : Nat) (l : List UInt32) (x : UInt32) (q : Option (Nat ⊕ Value)) (W : World) : Prop where
  env : BkE32 w Bs g gk z cs W
  lt : gv < W.heap.size
  old : ∀ i, i < l.length → W.cell? ⟨gv, i, none⟩ = some (W32 (Sha32.at_ l i))
  own : (q = none ∨ ∃ y, q = some (.inl y)) → OwnW32 W Bs (.slice (some ⟨gv, 0, none⟩) l.length cap) l
  one : ∀ y, q = some (.inl y) → ReadsW32 W W.heap.size (some ⟨y, 0, none⟩) 1 [x]
  done : ∀ u, q = some (.inr u) → OwnW32 W Bs u (l ++ [x])
section
variable {w : World} {Bs g gk z : Nat} {cs : Array Value} {gv cap : Nat} {l : List UInt32} {x : UInt32} {q : Option (Nat ⊕ Value)} {W w' : World}
theorem BkV32.next (h : BkV32 w Bs g gk z cs gv cap l x q W) (hb : Below W.heap.size W w') : BkV32 w Bs g gk z cs gv cap l x q w' :=
  ⟨h.env.next hb, Nat.lt_of_lt_of_le h.lt hb.size, fun i hi => (hb.cell (p := ⟨gv, i, none⟩) h.lt).trans (h.old i hi), fun hq => (h.own hq).later hb, fun y hy => ⟨(h.one y hy).len, ((h.one y hy).is.below hb).more hb.size⟩, fun u hu => (h.done u hu).later hb⟩
theorem BkV32.call {P : Program} {f : FuncId} {args : Array Value} {v : Value} (h : BkV32 w Bs g gk z cs gv cap l x q W) (hc : Calls P f args W fun e w' => e = .returned v ∧ Below W.heap.size W w') :
    Calls P f args W fun e w' => e = .returned v ∧ BkV32 w Bs g gk z cs gv cap l x q w' := hc.mono fun _ _ ⟨he, hb⟩ => ⟨he, h.next hb⟩
end
set_option maxHeartbeats 8000000 in
set_option maxRecDepth 100000 in
theorem sched32_region {Q : Exit → Act → World → Prop} (w : World) (Bs g gk z : Nat) (cs : Array Value) (gv cap : Nat) (l : List UInt32) (W0 : World) : True := by
  trivial
set_option maxHeartbeats 8000000 in
set_option maxRecDepth 100000 in
theorem blocked32_any (g gk : Nat) (pre post : Array Value) (s : List UInt32) (hpre : pre.size = 1) (hs : s.length = 8) (Bs : Nat) (v : Value) (l0 : List UInt32) (w : World) (hst : Blk w g 81 (pre ++ arr32 s ++ post)) (htb : Blk w gk 111 (arr32 Sha32.K)) (hg : g < Bs) (hgk : gk < Bs) (hB : Bs ≤ w.heap.size) (hw : OwnW32 w Bs v l0) (hl : l0.length = 16) :
    Calls Tryd.prog 54 #[.pointer (some ⟨g, 1, none⟩), v, .slice (some ⟨gk, 0, none⟩) 64 64, .agg kind32] w fun e w' => e = .returned (.tuple #[]) ∧ Blk w' g 81 (pre ++ arr32 (Sha32.block s l0) ++ post) ∧ Kept Bs g w w' := by
  have Hl := hd hl
  have Hs := hd hs
  clear hl hs
  obtain ⟨cs, Hcs⟩ : ∃ c, Hd (pre ++ arr32 s ++ post = c) := ⟨_, ⟨rfl⟩⟩
  rw [Hcs.out] at hst
  have hA := (Below.refl w.heap.size w).alloc (Nat.le_refl _) (.cells kind32 114)
  have hE0 : BkE32 w Bs g gk w.heap.size cs (w.alloc (.cells kind32 114)) := ⟨hst.below hA hst.lt, htb.below hA htb.lt, Blk.nu rfl, below_kept hA hB, Nat.le_trans hB hA.size⟩
  have hw1 := hw.alloc (.cells kind32 114)
  go_enter Tryd.func54, Tryd.ntmps54
  go_wp2
  obtain ⟨z, Hz⟩ : ∃ z, Hd (w.heap.size = z) := ⟨_, ⟨rfl⟩⟩
  rw [Hz.out] at hE0 ⊢
  go_loopw [1, 8] (fun v t wr => ∃ (j : Nat), j ≤ 48 ∧ t = .int .i64 ((16 + j : Nat) : Int) ∧ OwnW32 wr Bs v (iter Sha32.more j l0) ∧ BkE32 w Bs g gk z cs wr) (fun _ t _ => 64 - (intOf t).toNat)
  case atStart => exact ⟨0, by omega, rfl, hw1, hE0⟩
  case round =>
    clear hw1 hE0
    obtain ⟨j, hj, rfl, own, hE⟩ := hrel
    obtain ⟨l, Hll⟩ : ∃ l, Hd (iter Sha32.more j l0 = l) := ⟨_, ⟨rfl⟩⟩
    rw [Hll.out] at own
    have hln : l.length = 16 + j := by rw [← Hll.out, Sha32.more_len, Hl.out]
    obtain ⟨gv, cap, e1, hgv1, hgv2, hcap⟩ := own.form (by omega)
    subst e1
    by_cases hlt : j < 48
    · rw [← hln]
      obtain ⟨m2, Hm2⟩ : ∃ m, Hd (l.length - 2 = m) := ⟨_, ⟨rfl⟩⟩
      obtain ⟨m7, Hm7⟩ : ∃ m, Hd (l.length - 7 = m) := ⟨_, ⟨rfl⟩⟩
      obtain ⟨m15, Hm15⟩ : ∃ m, Hd (l.length - 15 = m) := ⟨_, ⟨rfl⟩⟩
      obtain ⟨m16, Hm16⟩ : ∃ m, Hd (l.length - 16 = m) := ⟨_, ⟨rfl⟩⟩
      have b2 := Hm2.out
      have b7 := Hm7.out
      have b15 := Hm15.out
      have b16 := Hm16.out
      obtain ⟨x, Hx⟩ : ∃ x, Hd (Sha32.far (Sha32.at_ l m2) + Sha32.at_ l m7 + Sha32.near (Sha32.at_ l m15) + Sha32.at_ l m16 = x) := ⟨_, ⟨rfl⟩⟩
      have Hnx := hd (show iter Sha32.more (j + 1) l0 = l ++ [x] by rw [iter, Hll.out, Sha32.more, Sha32.next, Hm2.out, Hm7.out, Hm15.out, Hm16.out, Hx.out])
      have tk : (l.length : Int) < 64 := by omega
      go_wp2
      have hS0 : BkV32 w Bs g gk z cs gv cap l x none wr := ⟨hE, hgv2, fun i hi => own.cell i hi, fun _ => own, (fun _ h => by cases h), (fun _ h => by cases h)⟩
      clear own hE
      refine v_start (S := BkV32 w Bs g gk z cs gv cap l x) (fun _ _ => True) none (by kernel_rfl) (hS0.next (Below.refl _ _).drew) ?_
      clear hS0
      refine v_take (fun _ => trivial) (fun _ _ _ _ _ => trivial) 0 (o := _) rfl (by kernel_rfl) (by kernel_rfl) (by kernel_rfl) (.slice (some ⟨gv, 0, none⟩) l.length cap) (fun _ _ _ h => h) (gv_value (wanted_plain rfl) (fun g1 hg W hW => run_move (by rfl) (by simp [Act.eval]) W)) ?_
      simp only [Act.put, List.getElem_toArray, List.getElem_cons_succ, List.getElem_cons_zero, List.setIfInBounds_toArray, List.set_cons_zero, List.set_cons_succ]
      refine v_take (fun _ => trivial) (fun _ _ _ _ _ => trivial) 1 (o := _) rfl (by kernel_rfl) (by kernel_rfl) (by kernel_rfl) (.slice (some ⟨gv, 0, none⟩) l.length cap) (fun _ _ _ h => h) (gv_value (wanted_plain rfl) (fun g1 hg W hW => run_move (by rfl) (by simp [Act.eval]) W)) ?_
      simp only [Act.put, List.getElem_toArray, List.getElem_cons_succ, List.getElem_cons_zero, List.setIfInBounds_toArray, List.set_cons_zero, List.set_cons_succ]
      refine v_take (fun _ => trivial) (fun _ _ _ _ _ => trivial) 2 (o := _) rfl (by kernel_rfl) (by kernel_rfl) (by kernel_rfl) (.int .i64 ((l.length : Nat) : Int)) (fun _ _ _ h => h) (gv_value (wanted_plain rfl) (fun g1 hg W hW => run_move (by rfl) (by simp [Act.eval]) W)) ?_
      simp only [Act.put, List.getElem_toArray, List.getElem_cons_succ, List.getElem_cons_zero, List.setIfInBounds_toArray, List.set_cons_zero, List.set_cons_succ]
      refine v_take (fun _ => trivial) (fun _ _ _ _ _ => trivial) 3 (o := _) rfl (by kernel_rfl) (by kernel_rfl) (by kernel_rfl) (.int .i64 ((m2 : Nat) : Int)) (fun _ _ _ h => h) (gv_value (wanted_plain rfl) (fun g1 hg W hW => run_subI (by rfl) (l.length : Int) 2 (m2 : Int) (by simp [Act.eval]) (by simp [Act.eval]) (sub_nat l.length 2 m2 (by omega) (by omega)))) ?_
      simp only [Act.put, List.getElem_toArray, List.getElem_cons_succ, List.getElem_cons_zero, List.setIfInBounds_toArray, List.set_cons_zero, List.set_cons_succ]
      refine v_take (fun _ => trivial) (fun _ _ _ _ _ => trivial) 4 (o := _) rfl (by kernel_rfl) (by kernel_rfl) (by kernel_rfl) (.pointer (some ⟨gv, m2, none⟩)) (fun _ _ _ h => h) (gv_value (wanted_plain rfl) (fun g1 hg W hW => run_indexAddr (by rfl) (by simp [Act.eval]) (by simp [Act.eval]) (index_sl32 gv l.length cap m2 (by omega)))) ?_
      simp only [Act.put, List.getElem_toArray, List.getElem_cons_succ, List.getElem_cons_zero, List.setIfInBounds_toArray, List.set_cons_zero, List.set_cons_succ]
      refine v_take (fun _ => trivial) (fun _ _ _ _ _ => trivial) 5 (o := _) rfl (by kernel_rfl) (by kernel_rfl) (by kernel_rfl) (.int .u32 ((n32 (Sha32.at_ l m2) : Nat) : Int)) (fun _ _ _ h => h) (gv_value (wanted_plain rfl) (fun g1 hg W hW => run_execOp_load (by rfl) (by simp [Act.eval]) (run_load_u32 _ _ W (BkV32.old hW m2 (by omega))))) ?_
      simp only [Act.put, List.getElem_toArray, List.getElem_cons_succ, List.getElem_cons_zero, List.setIfInBounds_toArray, List.set_cons_zero, List.set_cons_succ]
      refine v_take (fun _ => trivial) (fun _ _ _ _ _ => trivial) 6 (o := _) rfl (by kernel_rfl) (by kernel_rfl) (by kernel_rfl) (.pointer (some ⟨z, 0, none⟩)) (fun _ _ _ h => h) (gv_value (wanted_plain rfl) (fun g1 hg W hW => run_fieldAddr (by rfl) (by simp [Act.eval]) (field_kind z 0 0 (by simp)))) ?_
      simp only [Act.put, List.getElem_toArray, List.getElem_cons_succ, List.getElem_cons_zero, List.setIfInBounds_toArray, List.set_cons_zero, List.set_cons_succ]
      refine v_take (fun _ => trivial) (fun _ _ _ _ _ => trivial) 7 (o := _) rfl (by kernel_rfl) (by kernel_rfl) (by kernel_rfl) (.int .i64 32) (fun _ _ _ h => h) (gv_value (wanted_plain rfl) (fun g1 hg W hW => run_execOp_load (by rfl) (by simp [Act.eval]) (run_load_i64 _ _ W ((BkV32.env hW).kd.cell 0)))) ?_
      simp only [Act.put, List.getElem_toArray, List.getElem_cons_succ, List.getElem_cons_zero, List.setIfInBounds_toArray, List.set_cons_zero, List.set_cons_succ]
      refine v_take (fun _ => trivial) (fun _ _ _ _ _ => trivial) 8 (o := _) rfl (by kernel_rfl) (by kernel_rfl) (by kernel_rfl) (.pointer (some ⟨z, 4, none⟩)) (fun _ _ _ h => h) (gv_value (wanted_plain rfl) (fun g1 hg W hW => run_fieldAddr (by rfl) (by simp [Act.eval]) (field_kind z 2 4 (by simp)))) ?_
      simp only [Act.put, List.getElem_toArray, List.getElem_cons_succ, List.getElem_cons_zero, List.setIfInBounds_toArray, List.set_cons_zero, List.set_cons_succ]
      refine v_take (fun _ => trivial) (fun _ _ _ _ _ => trivial) 9 (o := _) rfl (by kernel_rfl) (by kernel_rfl) (by kernel_rfl) (.agg (three 17 19 10)) (fun _ _ _ h => h) (gv_value (wanted_plain rfl) (fun g1 hg W hW => run_execOp_load (by rfl) (by simp [Act.eval]) (run_loadVar_cells agg3 ⟨z, 4, none⟩ [.int .i64 17, .int .i64 19, .int .i64 10] rfl ((BkV32.env hW).kd.cells_at 4 _ (fun j v hv => by match j, hv with | 0, hv => exact hv | 1, hv => exact hv | 2, hv => exact hv | j + 3, hv => simp at hv)).is))) ?_
      simp only [Act.put, List.getElem_toArray, List.getElem_cons_succ, List.getElem_cons_zero, List.setIfInBounds_toArray, List.set_cons_zero, List.set_cons_succ]
      refine v_take (fun _ => trivial) (fun _ _ _ _ _ => trivial) 11 (o := _) rfl (by kernel_rfl) (by kernel_rfl) (by kernel_rfl) (.slice (some ⟨gv, 0, none⟩) l.length cap) (fun _ _ _ h => h) (gv_value (wanted_plain rfl) (fun g1 hg W hW => run_move (by rfl) (by simp [Act.eval]) W)) ?_
      simp only [Act.put, List.getElem_toArray, List.getElem_cons_succ, List.getElem_cons_zero, List.setIfInBounds_toArray, List.set_cons_zero, List.set_cons_succ]
      refine v_take (fun _ => trivial) (fun _ _ _ _ _ => trivial) 12 (o := _) rfl (by kernel_rfl) (by kernel_rfl) (by kernel_rfl) (.int .i64 ((l.length : Nat) : Int)) (fun _ _ _ h => h) (gv_value (wanted_plain rfl) (fun g1 hg W hW => run_move (by rfl) (by simp [Act.eval]) W)) ?_
      simp only [Act.put, List.getElem_toArray, List.getElem_cons_succ, List.getElem_cons_zero, List.setIfInBounds_toArray, List.set_cons_zero, List.set_cons_succ]
      refine v_take (fun _ => trivial) (fun _ _ _ _ _ => trivial) 13 (o := _) rfl (by kernel_rfl) (by kernel_rfl) (by kernel_rfl) (.int .i64 ((m7 : Nat) : Int)) (fun _ _ _ h => h) (gv_value (wanted_plain rfl) (fun g1 hg W hW => run_subI (by rfl) (l.length : Int) 7 (m7 : Int) (by simp [Act.eval]) (by simp [Act.eval]) (sub_nat l.length 7 m7 (by omega) (by omega)))) ?_
      simp only [Act.put, List.getElem_toArray, List.getElem_cons_succ, List.getElem_cons_zero, List.setIfInBounds_toArray, List.set_cons_zero, List.set_cons_succ]
      refine v_take (fun _ => trivial) (fun _ _ _ _ _ => trivial) 14 (o := _) rfl (by kernel_rfl) (by kernel_rfl) (by kernel_rfl) (.pointer (some ⟨gv, m7, none⟩)) (fun _ _ _ h => h) (gv_value (wanted_plain rfl) (fun g1 hg W hW => run_indexAddr (by rfl) (by simp [Act.eval]) (by simp [Act.eval]) (index_sl32 gv l.length cap m7 (by omega)))) ?_
      simp only [Act.put, List.getElem_toArray, List.getElem_cons_succ, List.getElem_cons_zero, List.setIfInBounds_toArray, List.set_cons_zero, List.set_cons_succ]
      refine v_take (fun _ => trivial) (fun _ _ _ _ _ => trivial) 15 (o := _) rfl (by kernel_rfl) (by kernel_rfl) (by kernel_rfl) (.int .u32 ((n32 (Sha32.at_ l m7) : Nat) : Int)) (fun _ _ _ h => h) (gv_value (wanted_plain rfl) (fun g1 hg W hW => run_execOp_load (by rfl) (by simp [Act.eval]) (run_load_u32 _ _ W (BkV32.old hW m7 (by omega))))) ?_
      simp only [Act.put, List.getElem_toArray, List.getElem_cons_succ, List.getElem_cons_zero, List.setIfInBounds_toArray, List.set_cons_zero, List.set_cons_succ]
      refine v_take (fun _ => trivial) (fun _ _ _ _ _ => trivial) 17 (o := _) rfl (by kernel_rfl) (by kernel_rfl) (by kernel_rfl) (.slice (some ⟨gv, 0, none⟩) l.length cap) (fun _ _ _ h => h) (gv_value (wanted_plain rfl) (fun g1 hg W hW => run_move (by rfl) (by simp [Act.eval]) W)) ?_
      simp only [Act.put, List.getElem_toArray, List.getElem_cons_succ, List.getElem_cons_zero, List.setIfInBounds_toArray, List.set_cons_zero, List.set_cons_succ]
      refine v_take (fun _ => trivial) (fun _ _ _ _ _ => trivial) 18 (o := _) rfl (by kernel_rfl) (by kernel_rfl) (by kernel_rfl) (.int .i64 ((l.length : Nat) : Int)) (fun _ _ _ h => h) (gv_value (wanted_plain rfl) (fun g1 hg W hW => run_move (by rfl) (by simp [Act.eval]) W)) ?_
      simp only [Act.put, List.getElem_toArray, List.getElem_cons_succ, List.getElem_cons_zero, List.setIfInBounds_toArray, List.set_cons_zero, List.set_cons_succ]
      refine v_take (fun _ => trivial) (fun _ _ _ _ _ => trivial) 19 (o := _) rfl (by kernel_rfl) (by kernel_rfl) (by kernel_rfl) (.int .i64 ((m15 : Nat) : Int)) (fun _ _ _ h => h) (gv_value (wanted_plain rfl) (fun g1 hg W hW => run_subI (by rfl) (l.length : Int) 15 (m15 : Int) (by simp [Act.eval]) (by simp [Act.eval]) (sub_nat l.length 15 m15 (by omega) (by omega)))) ?_
      simp only [Act.put, List.getElem_toArray, List.getElem_cons_succ, List.getElem_cons_zero, List.setIfInBounds_toArray, List.set_cons_zero, List.set_cons_succ]
      refine v_take (fun _ => trivial) (fun _ _ _ _ _ => trivial) 20 (o := _) rfl (by kernel_rfl) (by kernel_rfl) (by kernel_rfl) (.pointer (some ⟨gv, m15, none⟩)) (fun _ _ _ h => h) (gv_value (wanted_plain rfl) (fun g1 hg W hW => run_indexAddr (by rfl) (by simp [Act.eval]) (by simp [Act.eval]) (index_sl32 gv l.length cap m15 (by omega)))) ?_
      simp only [Act.put, List.getElem_toArray, List.getElem_cons_succ, List.getElem_cons_zero, List.setIfInBounds_toArray, List.set_cons_zero, List.set_cons_succ]
      refine v_take (fun _ => trivial) (fun _ _ _ _ _ => trivial) 21 (o := _) rfl (by kernel_rfl) (by kernel_rfl) (by kernel_rfl) (.int .u32 ((n32 (Sha32.at_ l m15) : Nat) : Int)) (fun _ _ _ h => h) (gv_value (wanted_plain rfl) (fun g1 hg W hW => run_execOp_load (by rfl) (by simp [Act.eval]) (run_load_u32 _ _ W (BkV32.old hW m15 (by omega))))) ?_
      simp only [Act.put, List.getElem_toArray, List.getElem_cons_succ, List.getElem_cons_zero, List.setIfInBounds_toArray, List.set_cons_zero, List.set_cons_succ]
      refine v_take (fun _ => trivial) (fun _ _ _ _ _ => trivial) 22 (o := _) rfl (by kernel_rfl) (by kernel_rfl) (by kernel_rfl) (.pointer (some ⟨z, 0, none⟩)) (fun _ _ _ h => h) (gv_value (wanted_plain rfl) (fun g1 hg W hW => run_fieldAddr (by rfl) (by simp [Act.eval]) (field_kind z 0 0 (by simp)))) ?_
      simp only [Act.put, List.getElem_toArray, List.getElem_cons_succ, List.getElem_cons_zero, List.setIfInBounds_toArray, List.set_cons_zero, List.set_cons_succ]
      refine v_take (fun _ => trivial) (fun _ _ _ _ _ => trivial) 23 (o := _) rfl (by kernel_rfl) (by kernel_rfl) (by kernel_rfl) (.int .i64 32) (fun _ _ _ h => h) (gv_value (wanted_plain rfl) (fun g1 hg W hW => run_execOp_load (by rfl) (by simp [Act.eval]) (run_load_i64 _ _ W ((BkV32.env hW).kd.cell 0)))) ?_
      simp only [Act.put, List.getElem_toArray, List.getElem_cons_succ, List.getElem_cons_zero, List.setIfInBounds_toArray, List.set_cons_zero, List.set_cons_succ]
      refine v_take (fun _ => trivial) (fun _ _ _ _ _ => trivial) 24 (o := _) rfl (by kernel_rfl) (by kernel_rfl) (by kernel_rfl) (.pointer (some ⟨z, 1, none⟩)) (fun _ _ _ h => h) (gv_value (wanted_plain rfl) (fun g1 hg W hW => run_fieldAddr (by rfl) (by simp [Act.eval]) (field_kind z 1 1 (by simp)))) ?_
      simp only [Act.put, List.getElem_toArray, List.getElem_cons_succ, List.getElem_cons_zero, List.setIfInBounds_toArray, List.set_cons_zero, List.set_cons_succ]
      refine v_take (fun _ => trivial) (fun _ _ _ _ _ => trivial) 25 (o := _) rfl (by kernel_rfl) (by kernel_rfl) (by kernel_rfl) (.agg (three 7 18 3)) (fun _ _ _ h => h) (gv_value (wanted_plain rfl) (fun g1 hg W hW => run_execOp_load (by rfl) (by simp [Act.eval]) (run_loadVar_cells agg3 ⟨z, 1, none⟩ [.int .i64 7, .int .i64 18, .int .i64 3] rfl ((BkV32.env hW).kd.cells_at 1 _ (fun j v hv => by match j, hv with | 0, hv => exact hv | 1, hv => exact hv | 2, hv => exact hv | j + 3, hv => simp at hv)).is))) ?_
      simp only [Act.put, List.getElem_toArray, List.getElem_cons_succ, List.getElem_cons_zero, List.setIfInBounds_toArray, List.set_cons_zero, List.set_cons_succ]
      refine v_take (fun _ => trivial) (fun _ _ _ _ _ => trivial) 28 (o := _) rfl (by kernel_rfl) (by kernel_rfl) (by kernel_rfl) (.slice (some ⟨gv, 0, none⟩) l.length cap) (fun _ _ _ h => h) (gv_value (wanted_plain rfl) (fun g1 hg W hW => run_move (by rfl) (by simp [Act.eval]) W)) ?_
      simp only [Act.put, List.getElem_toArray, List.getElem_cons_succ, List.getElem_cons_zero, List.setIfInBounds_toArray, List.set_cons_zero, List.set_cons_succ]
      refine v_take (fun _ => trivial) (fun _ _ _ _ _ => trivial) 29 (o := _) rfl (by kernel_rfl) (by kernel_rfl) (by kernel_rfl) (.int .i64 ((l.length : Nat) : Int)) (fun _ _ _ h => h) (gv_value (wanted_plain rfl) (fun g1 hg W hW => run_move (by rfl) (by simp [Act.eval]) W)) ?_
      simp only [Act.put, List.getElem_toArray, List.getElem_cons_succ, List.getElem_cons_zero, List.setIfInBounds_toArray, List.set_cons_zero, List.set_cons_succ]
      refine v_take (fun _ => trivial) (fun _ _ _ _ _ => trivial) 30 (o := _) rfl (by kernel_rfl) (by kernel_rfl) (by kernel_rfl) (.int .i64 ((m16 : Nat) : Int)) (fun _ _ _ h => h) (gv_value (wanted_plain rfl) (fun g1 hg W hW => run_subI (by rfl) (l.length : Int) 16 (m16 : Int) (by simp [Act.eval]) (by simp [Act.eval]) (sub_nat l.length 16 m16 (by omega) (by omega)))) ?_
      simp only [Act.put, List.getElem_toArray, List.getElem_cons_succ, List.getElem_cons_zero, List.setIfInBounds_toArray, List.set_cons_zero, List.set_cons_succ]
      refine v_take (fun _ => trivial) (fun _ _ _ _ _ => trivial) 31 (o := _) rfl (by kernel_rfl) (by kernel_rfl) (by kernel_rfl) (.pointer (some ⟨gv, m16, none⟩)) (fun _ _ _ h => h) (gv_value (wanted_plain rfl) (fun g1 hg W hW => run_indexAddr (by rfl) (by simp [Act.eval]) (by simp [Act.eval]) (index_sl32 gv l.length cap m16 (by omega)))) ?_
      simp only [Act.put, List.getElem_toArray, List.getElem_cons_succ, List.getElem_cons_zero, List.setIfInBounds_toArray, List.set_cons_zero, List.set_cons_succ]
      refine v_take (fun _ => trivial) (fun _ _ _ _ _ => trivial) 32 (o := _) rfl (by kernel_rfl) (by kernel_rfl) (by kernel_rfl) (.int .u32 ((n32 (Sha32.at_ l m16) : Nat) : Int)) (fun _ _ _ h => h) (gv_value (wanted_plain rfl) (fun g1 hg W hW => run_execOp_load (by rfl) (by simp [Act.eval]) (run_load_u32 _ _ W (BkV32.old hW m16 (by omega))))) ?_
      simp only [Act.put, List.getElem_toArray, List.getElem_cons_succ, List.getElem_cons_zero, List.setIfInBounds_toArray, List.set_cons_zero, List.set_cons_succ]
      refine v_take (fun _ => trivial) (fun _ _ _ _ _ => trivial) 10 (o := _) rfl (by kernel_rfl) (by kernel_rfl) (by kernel_rfl) (.int .u32 ((n32 (Sha32.far (Sha32.at_ l m2)) : Nat) : Int)) (fun _ _ _ h => h) (gv_call (wanted_plain rfl) 65 _ _ rfl #[.int .u32 ((n32 (Sha32.at_ l m2) : Nat) : Int), .int .i64 32, .agg (three 17 19 10), .bool true] (by simp [Act.eval]) (enter_mixed32 _) (fun g1 hg W hW => BkV32.call hW (mixed32_any (Sha32.at_ l m2) 17 19 10 (by omega) (by omega) (by omega) true W))) ?_
      simp only [Act.put, List.getElem_toArray, List.getElem_cons_succ, List.getElem_cons_zero, List.setIfInBounds_toArray, List.set_cons_zero, List.set_cons_succ]
      refine v_take (fun _ => trivial) (fun _ _ _ _ _ => trivial) 16 (o := _) rfl (by kernel_rfl) (by kernel_rfl) (by kernel_rfl) (.int .u32 ((n32 (Sha32.far (Sha32.at_ l m2) + Sha32.at_ l m7) : Nat) : Int)) (fun _ _ _ h => h) (gv_value (wanted_plain rfl) (fun g1 hg W hW => run_add32 (by rfl) (Sha32.far (Sha32.at_ l m2)) (Sha32.at_ l m7) (by simp [Act.eval]) (by simp [Act.eval]) W)) ?_
      simp only [Act.put, List.getElem_toArray, List.getElem_cons_succ, List.getElem_cons_zero, List.setIfInBounds_toArray, List.set_cons_zero, List.set_cons_succ]
      refine v_take (fun _ => trivial) (fun _ _ _ _ _ => trivial) 26 (o := _) rfl (by kernel_rfl) (by kernel_rfl) (by kernel_rfl) (.int .u32 ((n32 (Sha32.near (Sha32.at_ l m15)) : Nat) : Int)) (fun _ _ _ h => h) (gv_call (wanted_plain rfl) 65 _ _ rfl #[.int .u32 ((n32 (Sha32.at_ l m15) : Nat) : Int), .int .i64 32, .agg (three 7 18 3), .bool true] (by simp [Act.eval]) (enter_mixed32 _) (fun g1 hg W hW => BkV32.call hW (mixed32_any (Sha32.at_ l m15) 7 18 3 (by omega) (by omega) (by omega) true W))) ?_
      simp only [Act.put, List.getElem_toArray, List.getElem_cons_succ, List.getElem_cons_zero, List.setIfInBounds_toArray, List.set_cons_zero, List.set_cons_succ]
      refine v_take (fun _ => trivial) (fun _ _ _ _ _ => trivial) 27 (o := _) rfl (by kernel_rfl) (by kernel_rfl) (by kernel_rfl) (.int .u32 ((n32 (Sha32.far (Sha32.at_ l m2) + Sha32.at_ l m7 + Sha32.near (Sha32.at_ l m15)) : Nat) : Int)) (fun _ _ _ h => h) (gv_value (wanted_plain rfl) (fun g1 hg W hW => run_add32 (by rfl) (Sha32.far (Sha32.at_ l m2) + Sha32.at_ l m7) (Sha32.near (Sha32.at_ l m15)) (by simp [Act.eval]) (by simp [Act.eval]) W)) ?_
      simp only [Act.put, List.getElem_toArray, List.getElem_cons_succ, List.getElem_cons_zero, List.setIfInBounds_toArray, List.set_cons_zero, List.set_cons_succ]
      refine v_take (fun _ => trivial) (fun _ _ _ _ _ => trivial) 33 (o := _) rfl (by kernel_rfl) (by kernel_rfl) (by kernel_rfl) (.int .u32 ((n32 (Sha32.far (Sha32.at_ l m2) + Sha32.at_ l m7 + Sha32.near (Sha32.at_ l m15) + Sha32.at_ l m16) : Nat) : Int)) (fun _ _ _ h => h) (gv_value (wanted_plain rfl) (fun g1 hg W hW => run_add32 (by rfl) (Sha32.far (Sha32.at_ l m2) + Sha32.at_ l m7 + Sha32.near (Sha32.at_ l m15)) (Sha32.at_ l m16) (by simp [Act.eval]) (by simp [Act.eval]) W)) ?_
      simp only [Act.put, List.getElem_toArray, List.getElem_cons_succ, List.getElem_cons_zero, List.setIfInBounds_toArray, List.set_cons_zero, List.set_cons_succ]
      refine v_each (rs := [34]) (by kernel_rfl) (by simp) (fun i hi W hW => ?_)
      obtain rfl : i = 34 := by simpa using hi
      clear hi
      refine ⟨_, rfl, wanted_plain rfl, .inl ⟨_, _, some (.inl W.heap.size), run_buildW32 (by rfl) x (by simp [Act.eval, Hx.out]), trivial, ?_, ?_⟩⟩
      · have h1 := hW.next ((Below.refl W.heap.size W).alloc (Nat.le_refl _) (.cells #[W32 x] 32))
        exact ⟨h1.env, h1.lt, h1.old, fun _ => h1.own (.inl rfl), fun y hy => by
          injection hy with hy; injection hy with hy; subst hy
          have h2 := ReadsW32.one W x
          exact ⟨h2.len, h2.is.more (by simp)⟩, fun u hu => by cases hu⟩
      obtain ⟨y, Hy⟩ : ∃ y, Hd (W.heap.size = y) := ⟨_, ⟨rfl⟩⟩
      rw [Hy.out]
      clear hW
      simp only [Act.put, List.getElem_toArray, List.getElem_cons_succ, List.getElem_cons_zero, List.setIfInBounds_toArray, List.set_cons_zero, List.set_cons_succ]
      refine v_each (rs := [35]) (by kernel_rfl) (by simp) (fun i hi W2 hW2 => ?_)
      obtain rfl : i = 35 := by simpa using hi
      clear hi
      refine ⟨_, rfl, wanted_plain rfl, .inl (run_appendKeepV32 (w := W2) (B := Bs) (l := l) (by rfl) gv cap (by simp [Act.eval]) (hW2.own (.inr ⟨y, rfl⟩)) (by omega) W2.heap.size ⟨y, 0, none⟩ 1 x (by simp [Act.eval]) (hW2.one y rfl) (by omega) hW2.env.sz ?_)⟩
      intro v' w' h1 h2 h3
      refine ⟨some (.inr v'), trivial, ⟨hW2.env.appended (hW2.own (.inr ⟨y, rfl⟩)) rfl h2, Nat.lt_of_lt_of_le hW2.lt h2.size, h3, (fun hq => by rcases hq with hq | ⟨_, hq⟩ <;> cases hq), (fun _ hq => by cases hq), (fun u hu => by injection hu with hu; injection hu with hu; subst hu; exact h1)⟩, ?_⟩
      clear hW2 h1 h2 h3
      simp only [Act.put, List.getElem_toArray, List.getElem_cons_succ, List.getElem_cons_zero, List.setIfInBounds_toArray, List.set_cons_zero, List.set_cons_succ]
      refine v_take (fun _ => trivial) (fun _ _ _ _ _ => trivial) 36 (o := _) rfl (by kernel_rfl) (by kernel_rfl) (by kernel_rfl) (v') (fun _ _ _ h => h) (gv_value (wanted_plain rfl) (fun g1 hg W hW => run_assign (by rfl) (by simp [Act.eval]) W)) ?_
      simp only [Act.put, List.getElem_toArray, List.getElem_cons_succ, List.getElem_cons_zero, List.setIfInBounds_toArray, List.set_cons_zero, List.set_cons_succ]
      refine v_done (by kernel_rfl) (fun W3 hW3 => ?_) _
      have own3 := hW3.done _ rfl
      have hE3 := hW3.env
      rw [← Hnx.out] at own3
      clear hW3
      go_wp2
      go_roundw
      case rel => exact ⟨j + 1, by omega, by congr 1 <;> omega, own3, hE3⟩
      case measure => simp [intOf]; omega
    · have ej : j = 48 := by omega
      subst ej
      have tk : ¬ (((16 + 48 : Nat) : Int)) < 64 := by omega
      have Hln := hd hln
      have Hgv := hd (And.intro hgv1 hgv2)
      clear hgv1 hgv2 hcap hj hlt hln
      have c0 : wr.cell? ⟨g, 1, none⟩ = some (.int .u32 ((n32 (Sha32.at_ s 0) : Nat) : Int)) := by
        have h := hE.st.cell (pre.size + 0)
        rw [← Hcs.out, mid32_get pre post s 0 (by rw [Hs.out]; omega), hpre] at h
        exact h
      have c1 : wr.cell? ⟨g, 2, none⟩ = some (.int .u32 ((n32 (Sha32.at_ s 1) : Nat) : Int)) := by
        have h := hE.st.cell (pre.size + 1)
        rw [← Hcs.out, mid32_get pre post s 1 (by rw [Hs.out]; omega), hpre] at h
        exact h
      have c2 : wr.cell? ⟨g, 3, none⟩ = some (.int .u32 ((n32 (Sha32.at_ s 2) : Nat) : Int)) := by
        have h := hE.st.cell (pre.size + 2)
        rw [← Hcs.out, mid32_get pre post s 2 (by rw [Hs.out]; omega), hpre] at h
        exact h
      have c3 : wr.cell? ⟨g, 4, none⟩ = some (.int .u32 ((n32 (Sha32.at_ s 3) : Nat) : Int)) := by
        have h := hE.st.cell (pre.size + 3)
        rw [← Hcs.out, mid32_get pre post s 3 (by rw [Hs.out]; omega), hpre] at h
        exact h
      have c4 : wr.cell? ⟨g, 5, none⟩ = some (.int .u32 ((n32 (Sha32.at_ s 4) : Nat) : Int)) := by
        have h := hE.st.cell (pre.size + 4)
        rw [← Hcs.out, mid32_get pre post s 4 (by rw [Hs.out]; omega), hpre] at h
        exact h
      have c5 : wr.cell? ⟨g, 6, none⟩ = some (.int .u32 ((n32 (Sha32.at_ s 5) : Nat) : Int)) := by
        have h := hE.st.cell (pre.size + 5)
        rw [← Hcs.out, mid32_get pre post s 5 (by rw [Hs.out]; omega), hpre] at h
        exact h
      have c6 : wr.cell? ⟨g, 7, none⟩ = some (.int .u32 ((n32 (Sha32.at_ s 6) : Nat) : Int)) := by
        have h := hE.st.cell (pre.size + 6)
        rw [← Hcs.out, mid32_get pre post s 6 (by rw [Hs.out]; omega), hpre] at h
        exact h
      have c7 : wr.cell? ⟨g, 8, none⟩ = some (.int .u32 ((n32 (Sha32.at_ s 7) : Nat) : Int)) := by
        have h := hE.st.cell (pre.size + 7)
        rw [← Hcs.out, mid32_get pre post s 7 (by rw [Hs.out]; omega), hpre] at h
        exact h
      go_wp2
      go_quiet (fail)
      go_wp2
      replace hE := hE.next (below_drewN (Below.refl _ _) nq)
      replace own := own.later (below_drewN (Below.refl wr.heap.size wr) nq)
      clear c0 c1 c2 c3 c4 c5 c6 c7
      obtain ⟨F, HF⟩ : ∃ F, Hd (iter (Sha32.round l) 64 (Sha32.toV s) = F) := ⟨_, ⟨rfl⟩⟩
      obtain ⟨V0, HV0⟩ : ∃ V, Hd (Sha32.toV s = V) := ⟨_, ⟨rfl⟩⟩
      have own' : OwnW32 (wr.drewN nq) Bs (.slice (some ⟨gv, 0, none⟩) l.length cap) l := own
      go_loopw [9, 10, 11, 12, 13, 14, 15, 16, 98] (fun a b c d e f g' h i wr => ∃ (k : Nat) (V : Sha32.V), k ≤ 64 ∧ i = .int .i64 (k : Int) ∧ iter (Sha32.round l) k (Sha32.toV s) = V ∧ a = W32 V.a ∧ b = W32 V.b ∧ c = W32 V.c ∧ d = W32 V.d ∧ e = W32 V.e ∧ f = W32 V.f ∧ g' = W32 V.g ∧ h = W32 V.h ∧ OwnW32 wr Bs (.slice (some ⟨gv, 0, none⟩) l.length cap) l ∧ BkE32 w Bs g gk z cs wr) (fun _ _ _ _ _ _ _ _ i _ => 64 - (intOf i).toNat)
      case atStart => exact ⟨0, _, by omega, rfl, rfl, rfl, rfl, rfl, rfl, rfl, rfl, rfl, rfl, own', hE⟩
      case round =>
        clear own own' hE
        obtain ⟨k, V, hk, rfl, hV, rfl, rfl, rfl, rfl, rfl, rfl, rfl, rfl, own, hE⟩ := hrel
        have HV := hd hV
        clear hV
        obtain ⟨a, b, c, d, ee, ff, q, h⟩ := V
        simp only [W32]
        by_cases hlt : k < 64
        · have tk : (k : Int) < 64 := by omega
          go_wp2
          refine u_start (S := fun _ => BkR32 w Bs g gk z cs gv cap l) 99 (by kernel_rfl) (BkR32.next ⟨hE, own⟩ (Below.refl _ _).drew) ?_
          clear own hE
          refine u_take 0 rfl (o := _) rfl (by kernel_rfl) (by kernel_rfl) (by kernel_rfl) (.int .u32 ((n32 h : Nat) : Int)) (fun _ _ _ h => h) (g_value rfl (wanted_plain rfl) (fun f W hW => run_move (by rfl) (by simp [Act.eval]) W)) ?_
          simp only [Act.put, List.getElem_toArray, List.getElem_cons_succ, List.getElem_cons_zero, List.setIfInBounds_toArray, List.set_cons_zero, List.set_cons_succ]
          refine u_take 1 rfl (o := _) rfl (by kernel_rfl) (by kernel_rfl) (by kernel_rfl) (.int .u32 ((n32 ee : Nat) : Int)) (fun _ _ _ h => h) (g_value rfl (wanted_plain rfl) (fun f W hW => run_move (by rfl) (by simp [Act.eval]) W)) ?_
          simp only [Act.put, List.getElem_toArray, List.getElem_cons_succ, List.getElem_cons_zero, List.setIfInBounds_toArray, List.set_cons_zero, List.set_cons_succ]
          refine u_take 2 rfl (o := _) rfl (by kernel_rfl) (by kernel_rfl) (by kernel_rfl) (.pointer (some ⟨z, 0, none⟩)) (fun _ _ _ h => h) (g_value rfl (wanted_plain rfl) (fun f W hW => run_fieldAddr (by rfl) (by simp [Act.eval]) (field_kind z 0 0 (by simp)))) ?_
          simp only [Act.put, List.getElem_toArray, List.getElem_cons_succ, List.getElem_cons_zero, List.setIfInBounds_toArray, List.set_cons_zero, List.set_cons_succ]
          refine u_take 3 rfl (o := _) rfl (by kernel_rfl) (by kernel_rfl) (by kernel_rfl) (.int .i64 32) (fun _ _ _ h => h) (g_value rfl (wanted_plain rfl) (fun f W hW => run_execOp_load (by rfl) (by simp [Act.eval]) (run_load_i64 _ _ W ((BkR32.env hW).kd.cell 0)))) ?_
          simp only [Act.put, List.getElem_toArray, List.getElem_cons_succ, List.getElem_cons_zero, List.setIfInBounds_toArray, List.set_cons_zero, List.set_cons_succ]
          refine u_take 4 rfl (o := _) rfl (by kernel_rfl) (by kernel_rfl) (by kernel_rfl) (.pointer (some ⟨z, 10, none⟩)) (fun _ _ _ h => h) (g_value rfl (wanted_plain rfl) (fun f W hW => run_fieldAddr (by rfl) (by simp [Act.eval]) (field_kind z 4 10 (by simp)))) ?_
          simp only [Act.put, List.getElem_toArray, List.getElem_cons_succ, List.getElem_cons_zero, List.setIfInBounds_toArray, List.set_cons_zero, List.set_cons_succ]
          refine u_take 5 rfl (o := _) rfl (by kernel_rfl) (by kernel_rfl) (by kernel_rfl) (.agg (three 6 11 25)) (fun _ _ _ h => h) (g_value rfl (wanted_plain rfl) (fun f W hW => run_execOp_load (by rfl) (by simp [Act.eval]) (run_loadVar_cells agg3 ⟨z, 10, none⟩ [.int .i64 6, .int .i64 11, .int .i64 25] rfl ((BkR32.env hW).kd.cells_at 10 _ (fun j v hv => by match j, hv with | 0, hv => exact hv | 1, hv => exact hv | 2, hv => exact hv | j + 3, hv => simp at hv)).is))) ?_
          simp only [Act.put, List.getElem_toArray, List.getElem_cons_succ, List.getElem_cons_zero, List.setIfInBounds_toArray, List.set_cons_zero, List.set_cons_succ]
          refine u_take 6 rfl (o := _) rfl (by kernel_rfl) (by kernel_rfl) (by kernel_rfl) (.int .u32 ((n32 (Sha32.fifth ee) : Nat) : Int)) (fun _ _ _ h => h) (g_call rfl (wanted_plain rfl) 65 _ _ rfl #[.int .u32 ((n32 ee : Nat) : Int), .int .i64 32, .agg (three 6 11 25), .bool false] (by simp [Act.eval]) (enter_mixed32 _) (fun f W hW => BkR32.call hW (mixed32_any ee 6 11 25 (by omega) (by omega) (by omega) false W))) ?_
          simp only [Act.put, List.getElem_toArray, List.getElem_cons_succ, List.getElem_cons_zero, List.setIfInBounds_toArray, List.set_cons_zero, List.set_cons_succ]
          refine u_take 7 rfl (o := _) rfl (by kernel_rfl) (by kernel_rfl) (by kernel_rfl) (.int .u32 ((n32 (h + Sha32.fifth ee) : Nat) : Int)) (fun _ _ _ h => h) (g_value rfl (wanted_plain rfl) (fun f W hW => run_add32 (by rfl) (h) (Sha32.fifth ee) (by simp [Act.eval]) (by simp [Act.eval]) W)) ?_
          simp only [Act.put, List.getElem_toArray, List.getElem_cons_succ, List.getElem_cons_zero, List.setIfInBounds_toArray, List.set_cons_zero, List.set_cons_succ]
          refine u_take 8 rfl (o := _) rfl (by kernel_rfl) (by kernel_rfl) (by kernel_rfl) (.int .u32 ((n32 q : Nat) : Int)) (fun _ _ _ h => h) (g_value rfl (wanted_plain rfl) (fun f W hW => run_move (by rfl) (by simp [Act.eval]) W)) ?_
          simp only [Act.put, List.getElem_toArray, List.getElem_cons_succ, List.getElem_cons_zero, List.setIfInBounds_toArray, List.set_cons_zero, List.set_cons_succ]
          refine u_take 9 rfl (o := _) rfl (by kernel_rfl) (by kernel_rfl) (by kernel_rfl) (.int .u32 ((n32 ee : Nat) : Int)) (fun _ _ _ h => h) (g_value rfl (wanted_plain rfl) (fun f W hW => run_move (by rfl) (by simp [Act.eval]) W)) ?_
          simp only [Act.put, List.getElem_toArray, List.getElem_cons_succ, List.getElem_cons_zero, List.setIfInBounds_toArray, List.set_cons_zero, List.set_cons_succ]
          refine u_take 10 rfl (o := _) rfl (by kernel_rfl) (by kernel_rfl) (by kernel_rfl) (.int .u32 ((n32 ff : Nat) : Int)) (fun _ _ _ h => h) (g_value rfl (wanted_plain rfl) (fun f W hW => run_move (by rfl) (by simp [Act.eval]) W)) ?_
          simp only [Act.put, List.getElem_toArray, List.getElem_cons_succ, List.getElem_cons_zero, List.setIfInBounds_toArray, List.set_cons_zero, List.set_cons_succ]
          refine u_take 11 rfl (o := _) rfl (by kernel_rfl) (by kernel_rfl) (by kernel_rfl) (.int .u32 ((n32 q : Nat) : Int)) (fun _ _ _ h => h) (g_value rfl (wanted_plain rfl) (fun f W hW => run_move (by rfl) (by simp [Act.eval]) W)) ?_
          simp only [Act.put, List.getElem_toArray, List.getElem_cons_succ, List.getElem_cons_zero, List.setIfInBounds_toArray, List.set_cons_zero, List.set_cons_succ]
          refine u_take 12 rfl (o := _) rfl (by kernel_rfl) (by kernel_rfl) (by kernel_rfl) (.int .u32 ((n32 (ff ^^^ q) : Nat) : Int)) (fun _ _ _ h => h) (g_value rfl (wanted_plain rfl) (fun f W hW => run_xor32 (by rfl) (ff) (q) (by simp [Act.eval]) (by simp [Act.eval]) W)) ?_
          simp only [Act.put, List.getElem_toArray, List.getElem_cons_succ, List.getElem_cons_zero, List.setIfInBounds_toArray, List.set_cons_zero, List.set_cons_succ]
          refine u_take 13 rfl (o := _) rfl (by kernel_rfl) (by kernel_rfl) (by kernel_rfl) (.int .u32 ((n32 (ee &&& (ff ^^^ q)) : Nat) : Int)) (fun _ _ _ h => h) (g_value rfl (wanted_plain rfl) (fun f W hW => run_and32 (by rfl) (ee) (ff ^^^ q) (by simp [Act.eval]) (by simp [Act.eval]) W)) ?_
          simp only [Act.put, List.getElem_toArray, List.getElem_cons_succ, List.getElem_cons_zero, List.setIfInBounds_toArray, List.set_cons_zero, List.set_cons_succ]
          refine u_take 14 rfl (o := _) rfl (by kernel_rfl) (by kernel_rfl) (by kernel_rfl) (.int .u32 ((n32 (q ^^^ ee &&& (ff ^^^ q)) : Nat) : Int)) (fun _ _ _ h => h) (g_value rfl (wanted_plain rfl) (fun f W hW => run_xor32 (by rfl) (q) (ee &&& (ff ^^^ q)) (by simp [Act.eval]) (by simp [Act.eval]) W)) ?_
          simp only [Act.put, List.getElem_toArray, List.getElem_cons_succ, List.getElem_cons_zero, List.setIfInBounds_toArray, List.set_cons_zero, List.set_cons_succ]
          refine u_take 15 rfl (o := _) rfl (by kernel_rfl) (by kernel_rfl) (by kernel_rfl) (.int .u32 ((n32 (h + Sha32.fifth ee + (q ^^^ ee &&& (ff ^^^ q))) : Nat) : Int)) (fun _ _ _ h => h) (g_value rfl (wanted_plain rfl) (fun f W hW => run_add32 (by rfl) (h + Sha32.fifth ee) (q ^^^ ee &&& (ff ^^^ q)) (by simp [Act.eval]) (by simp [Act.eval]) W)) ?_
          simp only [Act.put, List.getElem_toArray, List.getElem_cons_succ, List.getElem_cons_zero, List.setIfInBounds_toArray, List.set_cons_zero, List.set_cons_succ]
          refine u_take 16 rfl (o := _) rfl (by kernel_rfl) (by kernel_rfl) (by kernel_rfl) (.slice (some ⟨gk, 0, none⟩) 64 64) (fun _ _ _ h => h) (g_value rfl (wanted_plain rfl) (fun f W hW => run_move (by rfl) (by simp [Act.eval]) W)) ?_
          simp only [Act.put, List.getElem_toArray, List.getElem_cons_succ, List.getElem_cons_zero, List.setIfInBounds_toArray, List.set_cons_zero, List.set_cons_succ]
          refine u_take 17 rfl (o := _) rfl (by kernel_rfl) (by kernel_rfl) (by kernel_rfl) (.int .i64 (k : Int)) (fun _ _ _ h => h) (g_value rfl (wanted_plain rfl) (fun f W hW => run_move (by rfl) (by simp [Act.eval]) W)) ?_
          simp only [Act.put, List.getElem_toArray, List.getElem_cons_succ, List.getElem_cons_zero, List.setIfInBounds_toArray, List.set_cons_zero, List.set_cons_succ]
          refine u_take 18 rfl (o := _) rfl (by kernel_rfl) (by kernel_rfl) (by kernel_rfl) (.pointer (some ⟨gk, k, none⟩)) (fun _ _ _ h => h) (g_value rfl (wanted_plain rfl) (fun f W hW => run_indexAddr (by rfl) (by simp [Act.eval]) (by simp [Act.eval]) (index_sl32 gk 64 64 k (by omega)))) ?_
          simp only [Act.put, List.getElem_toArray, List.getElem_cons_succ, List.getElem_cons_zero, List.setIfInBounds_toArray, List.set_cons_zero, List.set_cons_succ]
          refine u_take 19 rfl (o := _) rfl (by kernel_rfl) (by kernel_rfl) (by kernel_rfl) (.int .u32 ((n32 (Sha32.at_ Sha32.K k) : Nat) : Int)) (fun _ _ _ h => h) (g_value rfl (wanted_plain rfl) (fun f W hW => run_execOp_load (by rfl) (by simp [Act.eval]) (run_load_u32 _ _ W (((BkR32.env hW).tb.cell k).trans (arr32_get _ k (by rw [Sha32.K_len]; omega)))))) ?_
          simp only [Act.put, List.getElem_toArray, List.getElem_cons_succ, List.getElem_cons_zero, List.setIfInBounds_toArray, List.set_cons_zero, List.set_cons_succ]
          refine u_take 20 rfl (o := _) rfl (by kernel_rfl) (by kernel_rfl) (by kernel_rfl) (.int .u32 ((n32 (h + Sha32.fifth ee + (q ^^^ ee &&& (ff ^^^ q)) + Sha32.at_ Sha32.K k) : Nat) : Int)) (fun _ _ _ h => h) (g_value rfl (wanted_plain rfl) (fun f W hW => run_add32 (by rfl) (h + Sha32.fifth ee + (q ^^^ ee &&& (ff ^^^ q))) (Sha32.at_ Sha32.K k) (by simp [Act.eval]) (by simp [Act.eval]) W)) ?_
          simp only [Act.put, List.getElem_toArray, List.getElem_cons_succ, List.getElem_cons_zero, List.setIfInBounds_toArray, List.set_cons_zero, List.set_cons_succ]
          refine u_take 21 rfl (o := _) rfl (by kernel_rfl) (by kernel_rfl) (by kernel_rfl) (.slice (some ⟨gv, 0, none⟩) l.length cap) (fun _ _ _ h => h) (g_value rfl (wanted_plain rfl) (fun f W hW => run_move (by rfl) (by simp [Act.eval]) W)) ?_
          simp only [Act.put, List.getElem_toArray, List.getElem_cons_succ, List.getElem_cons_zero, List.setIfInBounds_toArray, List.set_cons_zero, List.set_cons_succ]
          refine u_take 22 rfl (o := _) rfl (by kernel_rfl) (by kernel_rfl) (by kernel_rfl) (.int .i64 (k : Int)) (fun _ _ _ h => h) (g_value rfl (wanted_plain rfl) (fun f W hW => run_move (by rfl) (by simp [Act.eval]) W)) ?_
          simp only [Act.put, List.getElem_toArray, List.getElem_cons_succ, List.getElem_cons_zero, List.setIfInBounds_toArray, List.set_cons_zero, List.set_cons_succ]
          refine u_take 23 rfl (o := _) rfl (by kernel_rfl) (by kernel_rfl) (by kernel_rfl) (.pointer (some ⟨gv, k, none⟩)) (fun _ _ _ h => h) (g_value rfl (wanted_plain rfl) (fun f W hW => run_indexAddr (by rfl) (by simp [Act.eval]) (by simp [Act.eval]) (index_sl32 gv l.length cap k (by have := Hln.out; omega)))) ?_
          simp only [Act.put, List.getElem_toArray, List.getElem_cons_succ, List.getElem_cons_zero, List.setIfInBounds_toArray, List.set_cons_zero, List.set_cons_succ]
          refine u_take 24 rfl (o := _) rfl (by kernel_rfl) (by kernel_rfl) (by kernel_rfl) (.int .u32 ((n32 (Sha32.at_ l k) : Nat) : Int)) (fun _ _ _ h => h) (g_value rfl (wanted_plain rfl) (fun f W hW => run_execOp_load (by rfl) (by simp [Act.eval]) (run_load_u32 _ _ W ((BkR32.own hW).cell k (by have := Hln.out; omega))))) ?_
          simp only [Act.put, List.getElem_toArray, List.getElem_cons_succ, List.getElem_cons_zero, List.setIfInBounds_toArray, List.set_cons_zero, List.set_cons_succ]
          refine u_take 25 rfl (o := _) rfl (by kernel_rfl) (by kernel_rfl) (by kernel_rfl) (.int .u32 ((n32 (h + Sha32.fifth ee + (q ^^^ ee &&& (ff ^^^ q)) + Sha32.at_ Sha32.K k + Sha32.at_ l k) : Nat) : Int)) (fun _ _ _ h => h) (g_value rfl (wanted_plain rfl) (fun f W hW => run_add32 (by rfl) (h + Sha32.fifth ee + (q ^^^ ee &&& (ff ^^^ q)) + Sha32.at_ Sha32.K k) (Sha32.at_ l k) (by simp [Act.eval]) (by simp [Act.eval]) W)) ?_
          simp only [Act.put, List.getElem_toArray, List.getElem_cons_succ, List.getElem_cons_zero, List.setIfInBounds_toArray, List.set_cons_zero, List.set_cons_succ]
          refine u_take 26 rfl (o := _) rfl (by kernel_rfl) (by kernel_rfl) (by kernel_rfl) (.int .u32 ((n32 (h + Sha32.fifth ee + (q ^^^ ee &&& (ff ^^^ q)) + Sha32.at_ Sha32.K k + Sha32.at_ l k) : Nat) : Int)) (fun _ _ _ h => h) (g_value rfl (wanted_plain rfl) (fun f W hW => run_assign (by rfl) (by simp [Act.eval]) W)) ?_
          simp only [Act.put, List.getElem_toArray, List.getElem_cons_succ, List.getElem_cons_zero, List.setIfInBounds_toArray, List.set_cons_zero, List.set_cons_succ]
          refine u_done (by kernel_rfl) (fun W5 hW5 => ?_) _
          have hW5 : BkR32 w Bs g gk z cs gv cap l W5 := hW5
          have hfirst : Cells W5 ⟨z, 7, none⟩ [.int .i64 2, .int .i64 13, .int .i64 22] := hW5.env.kd.cells_at 7 _ (fun j v hv => by match j, hv with | 0, hv => exact hv | 1, hv => exact hv | 2, hv => exact hv | j + 3, hv => simp at hv)
          have hbits : W5.cell? ⟨z, 0, none⟩ = some (.int .i64 32) := hW5.env.kd.cell 0
          go_wp2_with (first | (go_at_call 65; refine (mixed32_any a 2 13 22 (by omega) (by omega) (by omega) false _).mono ?_; rintro e5 w5 ⟨rfl, hB5⟩) | (refine wpl_load rfl _ _ rfl ⟨z, 7, none⟩ rfl 3 agg3 [.int .i64 2, .int .i64 13, .int .i64 22] rfl hfirst ?_))
          exact ⟨⟨k + 1, Sha32.round l k ⟨a, b, c, d, ee, ff, q, h⟩, by omega, by congr 1 <;> omega, by rw [iter, HV.out], rfl, rfl, rfl, rfl, rfl, rfl, rfl, rfl, hW5.own.later hB5, hW5.env.next hB5⟩, by simp [intOf]; omega⟩
        · have ek : k = 64 := by omega
          subst ek
          have tk : ¬ ((64 : Nat) : Int) < 64 := by omega
          have Hblock := hd (show Sha32.block s l0 = iter (Sha32.add8 [a, b, c, d, ee, ff, q, h]) 8 s by rw [Sha32.block, Hll.out, HV.out]; rfl)
          have hst3 := hE.st
          have hk3 := hE.kept
          clear own hE
          obtain ⟨u, Hu⟩ : ∃ u, Hd ([a, b, c, d, ee, ff, q, h] = u) := ⟨_, ⟨rfl⟩⟩
          have Hul := hd (show u.length = 8 by rw [← Hu.out]; rfl)
          rw [Hu.out] at Hblock
          have Hix := hd (fun (k : Nat) (hk : k < 8) (W : World) => by
            have hh := run_index_arr32 (w := W) u Hul.out k hk
            rw [← Hu.out] at hh
            exact (show (Instr.index 78 (.agg #[.int .u32 ((n32 a : Nat) : Int), .int .u32 ((n32 b : Nat) : Int), .int .u32 ((n32 c : Nat) : Int), .int .u32 ((n32 d : Nat) : Int), .int .u32 ((n32 ee : Nat) : Int), .int .u32 ((n32 ff : Nat) : Int), .int .u32 ((n32 q : Nat) : Int), .int .u32 ((n32 h : Nat) : Int)]) (.int .i64 (k : Int))).run Tryd.prog W = .ok (.int .u32 ((n32 (Sha32.at_ [a, b, c, d, ee, ff, q, h] k) : Nat) : Int)) W from hh))
          rw [← Hcs.out] at hst3
          go_wp2
          go_loopw [165] (fun i wr => ∃ k : Nat, k ≤ 8 ∧ i = .int .i64 (k : Int) ∧ Blk wr g 81 (pre ++ arr32 (iter (Sha32.add8 u) k s) ++ post) ∧ Kept Bs g w wr) (fun i _ => 8 - (intOf i).toNat)
          case atStart => exact ⟨0, by omega, rfl, hst3, hk3⟩
          case round =>
            clear hst3 hk3
            obtain ⟨k, hk, rfl, hb, hK⟩ := hrel
            obtain ⟨sk, Hsk⟩ : ∃ y, Hd (iter (Sha32.add8 u) k s = y) := ⟨_, ⟨rfl⟩⟩
            rw [Hsk.out] at hb
            have Hskl := hd (show sk.length = 8 by rw [← Hsk.out, Sha32.add8_len, Hs.out])
            by_cases hlt : k < 8
            · have tk2 : (k : Int) < 8 := by omega
              have ck : wr.cell? ⟨g, 1 + k, none⟩ = some (.int .u32 ((n32 (Sha32.at_ sk k) : Nat) : Int)) := by
                have h := hb.cell (pre.size + k)
                rw [mid32_get pre post sk k (by rw [Hskl.out]; omega), hpre] at h
                exact h
              have fk := hb.frozen (1 + k)
              have hix := Hix.out k hlt
              rw [Hu.out] at hix
              have Hnx := hd (show iter (Sha32.add8 u) (k + 1) s = sk.set k (Sha32.at_ sk k + Sha32.at_ u k) by rw [iter, Hsk.out]; rfl)
              go_wp2
              go_region
              go_wp2
              clear hix
              go_roundw
              case rel =>
                refine ⟨k + 1, by omega, by go_num, ?_, (hK.trans (grown_kept (grew_setCell (World.grownBy.refl wr (some g)) (1 + k) _) (fun k hk => .inr (by injection hk with hk; exact hk.symm)) (Nat.le_trans hB hK.size))).trans (below_kept (Below.refl Bs _).drew (Nat.le_refl _))⟩
                have h := hb.set_ (1 + k) (W32 (Sha32.at_ sk k + Sha32.at_ u k))
                rw [← hpre, mid32_set pre post sk k _ (by rw [Hskl.out]; omega), hpre] at h
                rw [Hnx.out]
                exact h.drew
              case measure => simp [intOf]; omega
            · have ek : k = 8 := by omega
              subst ek
              have tk2 : ¬ ((8 : Nat) : Int) < 8 := by omega
              go_wp2
              go_end0
              refine ⟨rfl, ?_, hK⟩
              rw [Hblock.out, Hsk.out]
              first | exact hb | (rw [← Array.append_assoc]; exact hb)
def kind64 : Array Value := #[.int .i64 64, .int .i64 1, .int .i64 8, .int .i64 7, .int .i64 19, .int .i64 61, .int .i64 6, .int .i64 28, .int .i64 34, .int .i64 39, .int .i64 14, .int .i64 18, .int .i64 41]
theorem mid64_get (pre post : Array Value) (l : List UInt64) (i : Nat) (hi : i < l.length) : (pre ++ arr64 l ++ post)[pre.size + i]? = some (W64 (Sha64.at_ l i)) := by
  rw [Array.getElem?_append_left (by rw [Array.size_append, arr64_size]; omega), Array.getElem?_append_right (by omega), Nat.add_sub_cancel_left, arr64_get l i hi]
theorem mid64_set (pre post : Array Value) (l : List UInt64) (i : Nat) (x : UInt64) (hi : i < l.length) : (pre ++ arr64 l ++ post).setIfInBounds (pre.size + i) (W64 x) = pre ++ arr64 (l.set i x) ++ post := by
  rw [Array.setIfInBounds_append_left (by rw [Array.size_append, arr64_size]; omega), Array.setIfInBounds_append_right (by omega), Nat.add_sub_cancel_left, arr64_set]
theorem index_sl64 (g n c i : Nat) (hi : i < n) (w : World) : (Instr.indexAt 117 (.slice (some ⟨g, 0, none⟩) n c) (.int .i64 (i : Int))).run Tryd.prog w = .ok (.pointer (some ⟨g, i, none⟩)) w := by
  have h1 : (i : Int) < (n : Int) := by omega
  have h2 : (0 : Int) ≤ (i : Int) := by omega
  have h3 : ¬ n ≤ i := by omega
  have hs : (Tryd.prog.info? 31).map (·.size) = some 1 := by kernel_rfl
  simp [Instr.indexAt, go_sem, run_underlying Tryd.underlying117, run_sizeOf hs, h1, h2, h3, hi, asIntOf, Addr.add_lit]
theorem run_load_u64 (ad : Addr) (v : Value) (w : World) (h : w.cell? ad = some v) : (loadVar 31 ad).run Tryd.prog w = .ok v w := by
  simp [loadVar, go_sem, h]
theorem run_add64 {P : Program} {o : Oper} {ρ : Operand → Value} {x y : Operand} {t rt : TypeId} (ho : o.op = .binOp .add t x y rt) (a b : UInt64) (hx : ρ x = .int .u64 ((n64 a : Nat) : Int)) (hy : ρ y = .int .u64 ((n64 b : Nat) : Int)) (w : World) :
    (execOp ρ o).run P w = .ok (.value (.int .u64 ((n64 (a + b) : Nat) : Int))) w := by
  unfold execOp
  simp only [ho, hx, hy]
  simp [go_sem]
theorem run_and64 {P : Program} {o : Oper} {ρ : Operand → Value} {x y : Operand} {t rt : TypeId} (ho : o.op = .binOp .and t x y rt) (a b : UInt64) (hx : ρ x = .int .u64 ((n64 a : Nat) : Int)) (hy : ρ y = .int .u64 ((n64 b : Nat) : Int)) (w : World) :
    (execOp ρ o).run P w = .ok (.value (.int .u64 ((n64 (a &&& b) : Nat) : Int))) w := by
  unfold execOp
  simp only [ho, hx, hy]
  simp [go_sem]
theorem run_index_arr64 {w : World} (l : List UInt64) (hl : l.length = 8) (j : Nat) (hj : j < 8) :
    (Instr.index 79 (.agg (arr64 l)) (.int .i64 (j : Int))).run Tryd.prog w = .ok (W64 (Sha64.at_ l j)) w := by
  have hag : (isAgg 31).run Tryd.prog w = .ok false w := by simp [go_sem]
  have hs : (Tryd.prog.info? 31).map (·.size) = some 1 := by kernel_rfl
  have hg := arr64_get l j (by omega)
  have hjn : (j : Int) < 8 := by omega
  simp [Instr.index, asIntOf, run_underlying Tryd.underlying79, run_sizeOf hs, Go.part, hag, hjn, hg, hj]
  all_goals omega
theorem enter_mixed64 (args : Array Value) (w : World) : (callFunc 66 args).run Tryd.prog w = .ok (.enter 66 args) w := by kernel_rfl
/-- What stays while a block is taken in: the state, the table, the kind. -/
structure BkE64 (w : World) (Bs g gk z : Nat) (cs : Array Value) (W : World) : Prop where
  st : Blk W g 81 cs
  tb : Blk W gk 119 (arr64 Sha64.K)
  kd : Blk W z 114 kind64
  kept : Kept Bs g w W
  sz : Bs ≤ W.heap.size
section
variable {w : World} {Bs g gk z : Nat} {cs : Array Value} {W w' : World}
theorem BkE64.next (h : BkE64 w Bs g gk z cs W) (hb : Below W.heap.size W w') : BkE64 w Bs g gk z cs w' :=
  ⟨h.st.below hb h.st.lt, h.tb.below hb h.tb.lt, h.kd.below hb h.kd.lt, h.kept.trans (below_kept hb h.sz), Nat.le_trans h.sz hb.size⟩
theorem BkE64.appended {v : Value} {l : List UInt64} (h : BkE64 w Bs g gk z cs W) (ho : OwnW64 W Bs v l) {gv : Nat} (hv : v.ownBlock = some gv) (hg : W.grownBy w' (some gv)) : BkE64 w Bs g gk z cs w' := by
  have hg' : W.grownBy w' v.ownBlock := by rw [hv]; exact hg
  exact ⟨h.st.appendedW64 ho hg' (by decide), h.tb.appendedW64 ho hg' (by decide), h.kd.appendedW64 ho hg' (by decide), h.kept.trans (grown_kept hg (fun k hk => .inl (by injection hk with hk; subst hk; exact (ho.own.lt _ hv).1)) h.sz), Nat.le_trans h.sz hg.size⟩
end
/-- .. and the schedule. -/
structure BkR64 (w : World) (Bs g gk z : Nat) (cs : Array Value) (gv cap : Nat) (l : List UInt64) (W : World) : Prop where
  env : BkE64 w Bs g gk z cs W
  own : OwnW64 W Bs (.slice (some ⟨gv, 0, none⟩) l.length cap) l
section
variable {w : World} {Bs g gk z : Nat} {cs : Array Value} {gv cap : Nat} {l : List UInt64} {W w' : World}
theorem BkR64.next (h : BkR64 w Bs g gk z cs gv cap l W) (hb : Below W.heap.size W w') : BkR64 w Bs g gk z cs gv cap l w' := ⟨h.env.next hb, h.own.later hb⟩
theorem BkR64.call {P : Program} {f : FuncId} {args : Array Value} {v : Value} (h : BkR64 w Bs g gk z cs gv cap l W) (hc : Calls P f args W fun e w' => e = .returned v ∧ Below W.heap.size W w') :
    Calls P f args W fun e w' => e = .returned v ∧ BkR64 w Bs g gk z cs gv cap l w' := hc.mono fun _ _ ⟨he, hb⟩ => ⟨he, h.next hb⟩
end
/-- The schedule's region: before, with the one word laid, with it behind. -/
structure BkV64 (w : World) (Bs g gk z : Nat) (cs : Array Value) (gv cap : Nat) (l : List UInt64) (x : UInt64) (q : Option (Nat ⊕ Value)) (W : World) : Prop where
  env : BkE64 w Bs g gk z cs W
  lt : gv < W.heap.size
  old : ∀ i, i < l.length → W.cell? ⟨gv, i, none⟩ = some (W64 (Sha64.at_ l i))
  own : (q = none ∨ ∃ y, q = some (.inl y)) → OwnW64 W Bs (.slice (some ⟨gv, 0, none⟩) l.length cap) l
  one : ∀ y, q = some (.inl y) → ReadsW64 W W.heap.size (some ⟨y, 0, none⟩) 1 [x]
  done : ∀ u, q = some (.inr u) → OwnW64 W Bs u (l ++ [x])
section
variable {w : World} {Bs g gk z : Nat} {cs : Array Value} {gv cap : Nat} {l : List UInt64} {x : UInt64} {q : Option (Nat ⊕ Value)} {W w' : World}
theorem BkV64.next (h : BkV64 w Bs g gk z cs gv cap l x q W) (hb : Below W.heap.size W w') : BkV64 w Bs g gk z cs gv cap l x q w' :=
  ⟨h.env.next hb, Nat.lt_of_lt_of_le h.lt hb.size, fun i hi => (hb.cell (p := ⟨gv, i, none⟩) h.lt).trans (h.old i hi), fun hq => (h.own hq).later hb, fun y hy => ⟨(h.one y hy).len, ((h.one y hy).is.below hb).more hb.size⟩, fun u hu => (h.done u hu).later hb⟩
theorem BkV64.call {P : Program} {f : FuncId} {args : Array Value} {v : Value} (h : BkV64 w Bs g gk z cs gv cap l x q W) (hc : Calls P f args W fun e w' => e = .returned v ∧ Below W.heap.size W w') :
    Calls P f args W fun e w' => e = .returned v ∧ BkV64 w Bs g gk z cs gv cap l x q w' := hc.mono fun _ _ ⟨he, hb⟩ => ⟨he, h.next hb⟩
end
set_option maxHeartbeats 8000000 in
set_option maxRecDepth 100000 in
theorem sched64_region {Q : Exit → Act → World → Prop} (w : World) (Bs g gk z : Nat) (cs : Array Value) (gv cap : Nat) (l : List UInt64) (W0 : World) : True := by
  trivial
set_option maxHeartbeats 8000000 in
set_option maxRecDepth 100000 in
theorem blocked64_any (g gk : Nat) (pre post : Array Value) (s : List UInt64) (hpre : pre.size = 9) (hs : s.length = 8) (Bs : Nat) (v : Value) (l0 : List UInt64) (w : World) (hst : Blk w g 81 (pre ++ arr64 s ++ post)) (htb : Blk w gk 119 (arr64 Sha64.K)) (hg : g < Bs) (hgk : gk < Bs) (hB : Bs ≤ w.heap.size) (hw : OwnW64 w Bs v l0) (hl : l0.length = 16) :
    Calls Tryd.prog 56 #[.pointer (some ⟨g, 9, none⟩), v, .slice (some ⟨gk, 0, none⟩) 80 80, .agg kind64] w fun e w' => e = .returned (.tuple #[]) ∧ Blk w' g 81 (pre ++ arr64 (Sha64.block s l0) ++ post) ∧ Kept Bs g w w' := by
  have Hl := hd hl
  have Hs := hd hs
  clear hl hs
  obtain ⟨cs, Hcs⟩ : ∃ c, Hd (pre ++ arr64 s ++ post = c) := ⟨_, ⟨rfl⟩⟩
  rw [Hcs.out] at hst
  have hA := (Below.refl w.heap.size w).alloc (Nat.le_refl _) (.cells kind64 114)
  have hE0 : BkE64 w Bs g gk w.heap.size cs (w.alloc (.cells kind64 114)) := ⟨hst.below hA hst.lt, htb.below hA htb.lt, Blk.nu rfl, below_kept hA hB, Nat.le_trans hB hA.size⟩
  have hw1 := hw.alloc (.cells kind64 114)
  go_enter Tryd.func56, Tryd.ntmps56
  go_wp2
  obtain ⟨z, Hz⟩ : ∃ z, Hd (w.heap.size = z) := ⟨_, ⟨rfl⟩⟩
  rw [Hz.out] at hE0 ⊢
  go_loopw [1, 8] (fun v t wr => ∃ (j : Nat), j ≤ 64 ∧ t = .int .i64 ((16 + j : Nat) : Int) ∧ OwnW64 wr Bs v (iter Sha64.more j l0) ∧ BkE64 w Bs g gk z cs wr) (fun _ t _ => 80 - (intOf t).toNat)
  case atStart => exact ⟨0, by omega, rfl, hw1, hE0⟩
  case round =>
    clear hw1 hE0
    obtain ⟨j, hj, rfl, own, hE⟩ := hrel
    obtain ⟨l, Hll⟩ : ∃ l, Hd (iter Sha64.more j l0 = l) := ⟨_, ⟨rfl⟩⟩
    rw [Hll.out] at own
    have hln : l.length = 16 + j := by rw [← Hll.out, Sha64.more_len, Hl.out]
    obtain ⟨gv, cap, e1, hgv1, hgv2, hcap⟩ := own.form (by omega)
    subst e1
    by_cases hlt : j < 64
    · rw [← hln]
      obtain ⟨m2, Hm2⟩ : ∃ m, Hd (l.length - 2 = m) := ⟨_, ⟨rfl⟩⟩
      obtain ⟨m7, Hm7⟩ : ∃ m, Hd (l.length - 7 = m) := ⟨_, ⟨rfl⟩⟩
      obtain ⟨m15, Hm15⟩ : ∃ m, Hd (l.length - 15 = m) := ⟨_, ⟨rfl⟩⟩
      obtain ⟨m16, Hm16⟩ : ∃ m, Hd (l.length - 16 = m) := ⟨_, ⟨rfl⟩⟩
      have b2 := Hm2.out
      have b7 := Hm7.out
      have b15 := Hm15.out
      have b16 := Hm16.out
      obtain ⟨x, Hx⟩ : ∃ x, Hd (Sha64.far (Sha64.at_ l m2) + Sha64.at_ l m7 + Sha64.near (Sha64.at_ l m15) + Sha64.at_ l m16 = x) := ⟨_, ⟨rfl⟩⟩
      have Hnx := hd (show iter Sha64.more (j + 1) l0 = l ++ [x] by rw [iter, Hll.out, Sha64.more, Sha64.next, Hm2.out, Hm7.out, Hm15.out, Hm16.out, Hx.out])
      have tk : (l.length : Int) < 80 := by omega
      go_wp2
      have hS0 : BkV64 w Bs g gk z cs gv cap l x none wr := ⟨hE, hgv2, fun i hi => own.cell i hi, fun _ => own, (fun _ h => by cases h), (fun _ h => by cases h)⟩
      clear own hE
      refine v_start (S := BkV64 w Bs g gk z cs gv cap l x) (fun _ _ => True) none (by kernel_rfl) (hS0.next (Below.refl _ _).drew) ?_
      clear hS0
      refine v_take (fun _ => trivial) (fun _ _ _ _ _ => trivial) 0 (o := _) rfl (by kernel_rfl) (by kernel_rfl) (by kernel_rfl) (.slice (some ⟨gv, 0, none⟩) l.length cap) (fun _ _ _ h => h) (gv_value (wanted_plain rfl) (fun g1 hg W hW => run_move (by rfl) (by simp [Act.eval]) W)) ?_
      simp only [Act.put, List.getElem_toArray, List.getElem_cons_succ, List.getElem_cons_zero, List.setIfInBounds_toArray, List.set_cons_zero, List.set_cons_succ]
      refine v_take (fun _ => trivial) (fun _ _ _ _ _ => trivial) 1 (o := _) rfl (by kernel_rfl) (by kernel_rfl) (by kernel_rfl) (.slice (some ⟨gv, 0, none⟩) l.length cap) (fun _ _ _ h => h) (gv_value (wanted_plain rfl) (fun g1 hg W hW => run_move (by rfl) (by simp [Act.eval]) W)) ?_
      simp only [Act.put, List.getElem_toArray, List.getElem_cons_succ, List.getElem_cons_zero, List.setIfInBounds_toArray, List.set_cons_zero, List.set_cons_succ]
      refine v_take (fun _ => trivial) (fun _ _ _ _ _ => trivial) 2 (o := _) rfl (by kernel_rfl) (by kernel_rfl) (by kernel_rfl) (.int .i64 ((l.length : Nat) : Int)) (fun _ _ _ h => h) (gv_value (wanted_plain rfl) (fun g1 hg W hW => run_move (by rfl) (by simp [Act.eval]) W)) ?_
      simp only [Act.put, List.getElem_toArray, List.getElem_cons_succ, List.getElem_cons_zero, List.setIfInBounds_toArray, List.set_cons_zero, List.set_cons_succ]
      refine v_take (fun _ => trivial) (fun _ _ _ _ _ => trivial) 3 (o := _) rfl (by kernel_rfl) (by kernel_rfl) (by kernel_rfl) (.int .i64 ((m2 : Nat) : Int)) (fun _ _ _ h => h) (gv_value (wanted_plain rfl) (fun g1 hg W hW => run_subI (by rfl) (l.length : Int) 2 (m2 : Int) (by simp [Act.eval]) (by simp [Act.eval]) (sub_nat l.length 2 m2 (by omega) (by omega)))) ?_
      simp only [Act.put, List.getElem_toArray, List.getElem_cons_succ, List.getElem_cons_zero, List.setIfInBounds_toArray, List.set_cons_zero, List.set_cons_succ]
      refine v_take (fun _ => trivial) (fun _ _ _ _ _ => trivial) 4 (o := _) rfl (by kernel_rfl) (by kernel_rfl) (by kernel_rfl) (.pointer (some ⟨gv, m2, none⟩)) (fun _ _ _ h => h) (gv_value (wanted_plain rfl) (fun g1 hg W hW => run_indexAddr (by rfl) (by simp [Act.eval]) (by simp [Act.eval]) (index_sl64 gv l.length cap m2 (by omega)))) ?_
      simp only [Act.put, List.getElem_toArray, List.getElem_cons_succ, List.getElem_cons_zero, List.setIfInBounds_toArray, List.set_cons_zero, List.set_cons_succ]
      refine v_take (fun _ => trivial) (fun _ _ _ _ _ => trivial) 5 (o := _) rfl (by kernel_rfl) (by kernel_rfl) (by kernel_rfl) (.int .u64 ((n64 (Sha64.at_ l m2) : Nat) : Int)) (fun _ _ _ h => h) (gv_value (wanted_plain rfl) (fun g1 hg W hW => run_execOp_load (by rfl) (by simp [Act.eval]) (run_load_u64 _ _ W (BkV64.old hW m2 (by omega))))) ?_
      simp only [Act.put, List.getElem_toArray, List.getElem_cons_succ, List.getElem_cons_zero, List.setIfInBounds_toArray, List.set_cons_zero, List.set_cons_succ]
      refine v_take (fun _ => trivial) (fun _ _ _ _ _ => trivial) 6 (o := _) rfl (by kernel_rfl) (by kernel_rfl) (by kernel_rfl) (.pointer (some ⟨z, 0, none⟩)) (fun _ _ _ h => h) (gv_value (wanted_plain rfl) (fun g1 hg W hW => run_fieldAddr (by rfl) (by simp [Act.eval]) (field_kind z 0 0 (by simp)))) ?_
      simp only [Act.put, List.getElem_toArray, List.getElem_cons_succ, List.getElem_cons_zero, List.setIfInBounds_toArray, List.set_cons_zero, List.set_cons_succ]
      refine v_take (fun _ => trivial) (fun _ _ _ _ _ => trivial) 7 (o := _) rfl (by kernel_rfl) (by kernel_rfl) (by kernel_rfl) (.int .i64 64) (fun _ _ _ h => h) (gv_value (wanted_plain rfl) (fun g1 hg W hW => run_execOp_load (by rfl) (by simp [Act.eval]) (run_load_i64 _ _ W ((BkV64.env hW).kd.cell 0)))) ?_
      simp only [Act.put, List.getElem_toArray, List.getElem_cons_succ, List.getElem_cons_zero, List.setIfInBounds_toArray, List.set_cons_zero, List.set_cons_succ]
      refine v_take (fun _ => trivial) (fun _ _ _ _ _ => trivial) 8 (o := _) rfl (by kernel_rfl) (by kernel_rfl) (by kernel_rfl) (.pointer (some ⟨z, 4, none⟩)) (fun _ _ _ h => h) (gv_value (wanted_plain rfl) (fun g1 hg W hW => run_fieldAddr (by rfl) (by simp [Act.eval]) (field_kind z 2 4 (by simp)))) ?_
      simp only [Act.put, List.getElem_toArray, List.getElem_cons_succ, List.getElem_cons_zero, List.setIfInBounds_toArray, List.set_cons_zero, List.set_cons_succ]
      refine v_take (fun _ => trivial) (fun _ _ _ _ _ => trivial) 9 (o := _) rfl (by kernel_rfl) (by kernel_rfl) (by kernel_rfl) (.agg (three 19 61 6)) (fun _ _ _ h => h) (gv_value (wanted_plain rfl) (fun g1 hg W hW => run_execOp_load (by rfl) (by simp [Act.eval]) (run_loadVar_cells agg3 ⟨z, 4, none⟩ [.int .i64 19, .int .i64 61, .int .i64 6] rfl ((BkV64.env hW).kd.cells_at 4 _ (fun j v hv => by match j, hv with | 0, hv => exact hv | 1, hv => exact hv | 2, hv => exact hv | j + 3, hv => simp at hv)).is))) ?_
      simp only [Act.put, List.getElem_toArray, List.getElem_cons_succ, List.getElem_cons_zero, List.setIfInBounds_toArray, List.set_cons_zero, List.set_cons_succ]
      refine v_take (fun _ => trivial) (fun _ _ _ _ _ => trivial) 11 (o := _) rfl (by kernel_rfl) (by kernel_rfl) (by kernel_rfl) (.slice (some ⟨gv, 0, none⟩) l.length cap) (fun _ _ _ h => h) (gv_value (wanted_plain rfl) (fun g1 hg W hW => run_move (by rfl) (by simp [Act.eval]) W)) ?_
      simp only [Act.put, List.getElem_toArray, List.getElem_cons_succ, List.getElem_cons_zero, List.setIfInBounds_toArray, List.set_cons_zero, List.set_cons_succ]
      refine v_take (fun _ => trivial) (fun _ _ _ _ _ => trivial) 12 (o := _) rfl (by kernel_rfl) (by kernel_rfl) (by kernel_rfl) (.int .i64 ((l.length : Nat) : Int)) (fun _ _ _ h => h) (gv_value (wanted_plain rfl) (fun g1 hg W hW => run_move (by rfl) (by simp [Act.eval]) W)) ?_
      simp only [Act.put, List.getElem_toArray, List.getElem_cons_succ, List.getElem_cons_zero, List.setIfInBounds_toArray, List.set_cons_zero, List.set_cons_succ]
      refine v_take (fun _ => trivial) (fun _ _ _ _ _ => trivial) 13 (o := _) rfl (by kernel_rfl) (by kernel_rfl) (by kernel_rfl) (.int .i64 ((m7 : Nat) : Int)) (fun _ _ _ h => h) (gv_value (wanted_plain rfl) (fun g1 hg W hW => run_subI (by rfl) (l.length : Int) 7 (m7 : Int) (by simp [Act.eval]) (by simp [Act.eval]) (sub_nat l.length 7 m7 (by omega) (by omega)))) ?_
      simp only [Act.put, List.getElem_toArray, List.getElem_cons_succ, List.getElem_cons_zero, List.setIfInBounds_toArray, List.set_cons_zero, List.set_cons_succ]
      refine v_take (fun _ => trivial) (fun _ _ _ _ _ => trivial) 14 (o := _) rfl (by kernel_rfl) (by kernel_rfl) (by kernel_rfl) (.pointer (some ⟨gv, m7, none⟩)) (fun _ _ _ h => h) (gv_value (wanted_plain rfl) (fun g1 hg W hW => run_indexAddr (by rfl) (by simp [Act.eval]) (by simp [Act.eval]) (index_sl64 gv l.length cap m7 (by omega)))) ?_
      simp only [Act.put, List.getElem_toArray, List.getElem_cons_succ, List.getElem_cons_zero, List.setIfInBounds_toArray, List.set_cons_zero, List.set_cons_succ]
      refine v_take (fun _ => trivial) (fun _ _ _ _ _ => trivial) 15 (o := _) rfl (by kernel_rfl) (by kernel_rfl) (by kernel_rfl) (.int .u64 ((n64 (Sha64.at_ l m7) : Nat) : Int)) (fun _ _ _ h => h) (gv_value (wanted_plain rfl) (fun g1 hg W hW => run_execOp_load (by rfl) (by simp [Act.eval]) (run_load_u64 _ _ W (BkV64.old hW m7 (by omega))))) ?_
      simp only [Act.put, List.getElem_toArray, List.getElem_cons_succ, List.getElem_cons_zero, List.setIfInBounds_toArray, List.set_cons_zero, List.set_cons_succ]
      refine v_take (fun _ => trivial) (fun _ _ _ _ _ => trivial) 17 (o := _) rfl (by kernel_rfl) (by kernel_rfl) (by kernel_rfl) (.slice (some ⟨gv, 0, none⟩) l.length cap) (fun _ _ _ h => h) (gv_value (wanted_plain rfl) (fun g1 hg W hW => run_move (by rfl) (by simp [Act.eval]) W)) ?_
      simp only [Act.put, List.getElem_toArray, List.getElem_cons_succ, List.getElem_cons_zero, List.setIfInBounds_toArray, List.set_cons_zero, List.set_cons_succ]
      refine v_take (fun _ => trivial) (fun _ _ _ _ _ => trivial) 18 (o := _) rfl (by kernel_rfl) (by kernel_rfl) (by kernel_rfl) (.int .i64 ((l.length : Nat) : Int)) (fun _ _ _ h => h) (gv_value (wanted_plain rfl) (fun g1 hg W hW => run_move (by rfl) (by simp [Act.eval]) W)) ?_
      simp only [Act.put, List.getElem_toArray, List.getElem_cons_succ, List.getElem_cons_zero, List.setIfInBounds_toArray, List.set_cons_zero, List.set_cons_succ]
      refine v_take (fun _ => trivial) (fun _ _ _ _ _ => trivial) 19 (o := _) rfl (by kernel_rfl) (by kernel_rfl) (by kernel_rfl) (.int .i64 ((m15 : Nat) : Int)) (fun _ _ _ h => h) (gv_value (wanted_plain rfl) (fun g1 hg W hW => run_subI (by rfl) (l.length : Int) 15 (m15 : Int) (by simp [Act.eval]) (by simp [Act.eval]) (sub_nat l.length 15 m15 (by omega) (by omega)))) ?_
      simp only [Act.put, List.getElem_toArray, List.getElem_cons_succ, List.getElem_cons_zero, List.setIfInBounds_toArray, List.set_cons_zero, List.set_cons_succ]
      refine v_take (fun _ => trivial) (fun _ _ _ _ _ => trivial) 20 (o := _) rfl (by kernel_rfl) (by kernel_rfl) (by kernel_rfl) (.pointer (some ⟨gv, m15, none⟩)) (fun _ _ _ h => h) (gv_value (wanted_plain rfl) (fun g1 hg W hW => run_indexAddr (by rfl) (by simp [Act.eval]) (by simp [Act.eval]) (index_sl64 gv l.length cap m15 (by omega)))) ?_
      simp only [Act.put, List.getElem_toArray, List.getElem_cons_succ, List.getElem_cons_zero, List.setIfInBounds_toArray, List.set_cons_zero, List.set_cons_succ]
      refine v_take (fun _ => trivial) (fun _ _ _ _ _ => trivial) 21 (o := _) rfl (by kernel_rfl) (by kernel_rfl) (by kernel_rfl) (.int .u64 ((n64 (Sha64.at_ l m15) : Nat) : Int)) (fun _ _ _ h => h) (gv_value (wanted_plain rfl) (fun g1 hg W hW => run_execOp_load (by rfl) (by simp [Act.eval]) (run_load_u64 _ _ W (BkV64.old hW m15 (by omega))))) ?_
      simp only [Act.put, List.getElem_toArray, List.getElem_cons_succ, List.getElem_cons_zero, List.setIfInBounds_toArray, List.set_cons_zero, List.set_cons_succ]
      refine v_take (fun _ => trivial) (fun _ _ _ _ _ => trivial) 22 (o := _) rfl (by kernel_rfl) (by kernel_rfl) (by kernel_rfl) (.pointer (some ⟨z, 0, none⟩)) (fun _ _ _ h => h) (gv_value (wanted_plain rfl) (fun g1 hg W hW => run_fieldAddr (by rfl) (by simp [Act.eval]) (field_kind z 0 0 (by simp)))) ?_
      simp only [Act.put, List.getElem_toArray, List.getElem_cons_succ, List.getElem_cons_zero, List.setIfInBounds_toArray, List.set_cons_zero, List.set_cons_succ]
      refine v_take (fun _ => trivial) (fun _ _ _ _ _ => trivial) 23 (o := _) rfl (by kernel_rfl) (by kernel_rfl) (by kernel_rfl) (.int .i64 64) (fun _ _ _ h => h) (gv_value (wanted_plain rfl) (fun g1 hg W hW => run_execOp_load (by rfl) (by simp [Act.eval]) (run_load_i64 _ _ W ((BkV64.env hW).kd.cell 0)))) ?_
      simp only [Act.put, List.getElem_toArray, List.getElem_cons_succ, List.getElem_cons_zero, List.setIfInBounds_toArray, List.set_cons_zero, List.set_cons_succ]
      refine v_take (fun _ => trivial) (fun _ _ _ _ _ => trivial) 24 (o := _) rfl (by kernel_rfl) (by kernel_rfl) (by kernel_rfl) (.pointer (some ⟨z, 1, none⟩)) (fun _ _ _ h => h) (gv_value (wanted_plain rfl) (fun g1 hg W hW => run_fieldAddr (by rfl) (by simp [Act.eval]) (field_kind z 1 1 (by simp)))) ?_
      simp only [Act.put, List.getElem_toArray, List.getElem_cons_succ, List.getElem_cons_zero, List.setIfInBounds_toArray, List.set_cons_zero, List.set_cons_succ]
      refine v_take (fun _ => trivial) (fun _ _ _ _ _ => trivial) 25 (o := _) rfl (by kernel_rfl) (by kernel_rfl) (by kernel_rfl) (.agg (three 1 8 7)) (fun _ _ _ h => h) (gv_value (wanted_plain rfl) (fun g1 hg W hW => run_execOp_load (by rfl) (by simp [Act.eval]) (run_loadVar_cells agg3 ⟨z, 1, none⟩ [.int .i64 1, .int .i64 8, .int .i64 7] rfl ((BkV64.env hW).kd.cells_at 1 _ (fun j v hv => by match j, hv with | 0, hv => exact hv | 1, hv => exact hv | 2, hv => exact hv | j + 3, hv => simp at hv)).is))) ?_
      simp only [Act.put, List.getElem_toArray, List.getElem_cons_succ, List.getElem_cons_zero, List.setIfInBounds_toArray, List.set_cons_zero, List.set_cons_succ]
      refine v_take (fun _ => trivial) (fun _ _ _ _ _ => trivial) 28 (o := _) rfl (by kernel_rfl) (by kernel_rfl) (by kernel_rfl) (.slice (some ⟨gv, 0, none⟩) l.length cap) (fun _ _ _ h => h) (gv_value (wanted_plain rfl) (fun g1 hg W hW => run_move (by rfl) (by simp [Act.eval]) W)) ?_
      simp only [Act.put, List.getElem_toArray, List.getElem_cons_succ, List.getElem_cons_zero, List.setIfInBounds_toArray, List.set_cons_zero, List.set_cons_succ]
      refine v_take (fun _ => trivial) (fun _ _ _ _ _ => trivial) 29 (o := _) rfl (by kernel_rfl) (by kernel_rfl) (by kernel_rfl) (.int .i64 ((l.length : Nat) : Int)) (fun _ _ _ h => h) (gv_value (wanted_plain rfl) (fun g1 hg W hW => run_move (by rfl) (by simp [Act.eval]) W)) ?_
      simp only [Act.put, List.getElem_toArray, List.getElem_cons_succ, List.getElem_cons_zero, List.setIfInBounds_toArray, List.set_cons_zero, List.set_cons_succ]
      refine v_take (fun _ => trivial) (fun _ _ _ _ _ => trivial) 30 (o := _) rfl (by kernel_rfl) (by kernel_rfl) (by kernel_rfl) (.int .i64 ((m16 : Nat) : Int)) (fun _ _ _ h => h) (gv_value (wanted_plain rfl) (fun g1 hg W hW => run_subI (by rfl) (l.length : Int) 16 (m16 : Int) (by simp [Act.eval]) (by simp [Act.eval]) (sub_nat l.length 16 m16 (by omega) (by omega)))) ?_
      simp only [Act.put, List.getElem_toArray, List.getElem_cons_succ, List.getElem_cons_zero, List.setIfInBounds_toArray, List.set_cons_zero, List.set_cons_succ]
      refine v_take (fun _ => trivial) (fun _ _ _ _ _ => trivial) 31 (o := _) rfl (by kernel_rfl) (by kernel_rfl) (by kernel_rfl) (.pointer (some ⟨gv, m16, none⟩)) (fun _ _ _ h => h) (gv_value (wanted_plain rfl) (fun g1 hg W hW => run_indexAddr (by rfl) (by simp [Act.eval]) (by simp [Act.eval]) (index_sl64 gv l.length cap m16 (by omega)))) ?_
      simp only [Act.put, List.getElem_toArray, List.getElem_cons_succ, List.getElem_cons_zero, List.setIfInBounds_toArray, List.set_cons_zero, List.set_cons_succ]
      refine v_take (fun _ => trivial) (fun _ _ _ _ _ => trivial) 32 (o := _) rfl (by kernel_rfl) (by kernel_rfl) (by kernel_rfl) (.int .u64 ((n64 (Sha64.at_ l m16) : Nat) : Int)) (fun _ _ _ h => h) (gv_value (wanted_plain rfl) (fun g1 hg W hW => run_execOp_load (by rfl) (by simp [Act.eval]) (run_load_u64 _ _ W (BkV64.old hW m16 (by omega))))) ?_
      simp only [Act.put, List.getElem_toArray, List.getElem_cons_succ, List.getElem_cons_zero, List.setIfInBounds_toArray, List.set_cons_zero, List.set_cons_succ]
      refine v_take (fun _ => trivial) (fun _ _ _ _ _ => trivial) 10 (o := _) rfl (by kernel_rfl) (by kernel_rfl) (by kernel_rfl) (.int .u64 ((n64 (Sha64.far (Sha64.at_ l m2)) : Nat) : Int)) (fun _ _ _ h => h) (gv_call (wanted_plain rfl) 66 _ _ rfl #[.int .u64 ((n64 (Sha64.at_ l m2) : Nat) : Int), .int .i64 64, .agg (three 19 61 6), .bool true] (by simp [Act.eval]) (enter_mixed64 _) (fun g1 hg W hW => BkV64.call hW (mixed64_any (Sha64.at_ l m2) 19 61 6 (by omega) (by omega) (by omega) true W))) ?_
      simp only [Act.put, List.getElem_toArray, List.getElem_cons_succ, List.getElem_cons_zero, List.setIfInBounds_toArray, List.set_cons_zero, List.set_cons_succ]
      refine v_take (fun _ => trivial) (fun _ _ _ _ _ => trivial) 16 (o := _) rfl (by kernel_rfl) (by kernel_rfl) (by kernel_rfl) (.int .u64 ((n64 (Sha64.far (Sha64.at_ l m2) + Sha64.at_ l m7) : Nat) : Int)) (fun _ _ _ h => h) (gv_value (wanted_plain rfl) (fun g1 hg W hW => run_add64 (by rfl) (Sha64.far (Sha64.at_ l m2)) (Sha64.at_ l m7) (by simp [Act.eval]) (by simp [Act.eval]) W)) ?_
      simp only [Act.put, List.getElem_toArray, List.getElem_cons_succ, List.getElem_cons_zero, List.setIfInBounds_toArray, List.set_cons_zero, List.set_cons_succ]
      refine v_take (fun _ => trivial) (fun _ _ _ _ _ => trivial) 26 (o := _) rfl (by kernel_rfl) (by kernel_rfl) (by kernel_rfl) (.int .u64 ((n64 (Sha64.near (Sha64.at_ l m15)) : Nat) : Int)) (fun _ _ _ h => h) (gv_call (wanted_plain rfl) 66 _ _ rfl #[.int .u64 ((n64 (Sha64.at_ l m15) : Nat) : Int), .int .i64 64, .agg (three 1 8 7), .bool true] (by simp [Act.eval]) (enter_mixed64 _) (fun g1 hg W hW => BkV64.call hW (mixed64_any (Sha64.at_ l m15) 1 8 7 (by omega) (by omega) (by omega) true W))) ?_
      simp only [Act.put, List.getElem_toArray, List.getElem_cons_succ, List.getElem_cons_zero, List.setIfInBounds_toArray, List.set_cons_zero, List.set_cons_succ]
      refine v_take (fun _ => trivial) (fun _ _ _ _ _ => trivial) 27 (o := _) rfl (by kernel_rfl) (by kernel_rfl) (by kernel_rfl) (.int .u64 ((n64 (Sha64.far (Sha64.at_ l m2) + Sha64.at_ l m7 + Sha64.near (Sha64.at_ l m15)) : Nat) : Int)) (fun _ _ _ h => h) (gv_value (wanted_plain rfl) (fun g1 hg W hW => run_add64 (by rfl) (Sha64.far (Sha64.at_ l m2) + Sha64.at_ l m7) (Sha64.near (Sha64.at_ l m15)) (by simp [Act.eval]) (by simp [Act.eval]) W)) ?_
      simp only [Act.put, List.getElem_toArray, List.getElem_cons_succ, List.getElem_cons_zero, List.setIfInBounds_toArray, List.set_cons_zero, List.set_cons_succ]
      refine v_take (fun _ => trivial) (fun _ _ _ _ _ => trivial) 33 (o := _) rfl (by kernel_rfl) (by kernel_rfl) (by kernel_rfl) (.int .u64 ((n64 (Sha64.far (Sha64.at_ l m2) + Sha64.at_ l m7 + Sha64.near (Sha64.at_ l m15) + Sha64.at_ l m16) : Nat) : Int)) (fun _ _ _ h => h) (gv_value (wanted_plain rfl) (fun g1 hg W hW => run_add64 (by rfl) (Sha64.far (Sha64.at_ l m2) + Sha64.at_ l m7 + Sha64.near (Sha64.at_ l m15)) (Sha64.at_ l m16) (by simp [Act.eval]) (by simp [Act.eval]) W)) ?_
      simp only [Act.put, List.getElem_toArray, List.getElem_cons_succ, List.getElem_cons_zero, List.setIfInBounds_toArray, List.set_cons_zero, List.set_cons_succ]
      refine v_each (rs := [34]) (by kernel_rfl) (by simp) (fun i hi W hW => ?_)
      obtain rfl : i = 34 := by simpa using hi
      clear hi
      refine ⟨_, rfl, wanted_plain rfl, .inl ⟨_, _, some (.inl W.heap.size), run_buildW64 (by rfl) x (by simp [Act.eval, Hx.out]), trivial, ?_, ?_⟩⟩
      · have h1 := hW.next ((Below.refl W.heap.size W).alloc (Nat.le_refl _) (.cells #[W64 x] 31))
        exact ⟨h1.env, h1.lt, h1.old, fun _ => h1.own (.inl rfl), fun y hy => by
          injection hy with hy; injection hy with hy; subst hy
          have h2 := ReadsW64.one W x
          exact ⟨h2.len, h2.is.more (by simp)⟩, fun u hu => by cases hu⟩
      obtain ⟨y, Hy⟩ : ∃ y, Hd (W.heap.size = y) := ⟨_, ⟨rfl⟩⟩
      rw [Hy.out]
      clear hW
      simp only [Act.put, List.getElem_toArray, List.getElem_cons_succ, List.getElem_cons_zero, List.setIfInBounds_toArray, List.set_cons_zero, List.set_cons_succ]
      refine v_each (rs := [35]) (by kernel_rfl) (by simp) (fun i hi W2 hW2 => ?_)
      obtain rfl : i = 35 := by simpa using hi
      clear hi
      refine ⟨_, rfl, wanted_plain rfl, .inl (run_appendKeepV64 (w := W2) (B := Bs) (l := l) (by rfl) gv cap (by simp [Act.eval]) (hW2.own (.inr ⟨y, rfl⟩)) (by omega) W2.heap.size ⟨y, 0, none⟩ 1 x (by simp [Act.eval]) (hW2.one y rfl) (by omega) hW2.env.sz ?_)⟩
      intro v' w' h1 h2 h3
      refine ⟨some (.inr v'), trivial, ⟨hW2.env.appended (hW2.own (.inr ⟨y, rfl⟩)) rfl h2, Nat.lt_of_lt_of_le hW2.lt h2.size, h3, (fun hq => by rcases hq with hq | ⟨_, hq⟩ <;> cases hq), (fun _ hq => by cases hq), (fun u hu => by injection hu with hu; injection hu with hu; subst hu; exact h1)⟩, ?_⟩
      clear hW2 h1 h2 h3
      simp only [Act.put, List.getElem_toArray, List.getElem_cons_succ, List.getElem_cons_zero, List.setIfInBounds_toArray, List.set_cons_zero, List.set_cons_succ]
      refine v_take (fun _ => trivial) (fun _ _ _ _ _ => trivial) 36 (o := _) rfl (by kernel_rfl) (by kernel_rfl) (by kernel_rfl) (v') (fun _ _ _ h => h) (gv_value (wanted_plain rfl) (fun g1 hg W hW => run_assign (by rfl) (by simp [Act.eval]) W)) ?_
      simp only [Act.put, List.getElem_toArray, List.getElem_cons_succ, List.getElem_cons_zero, List.setIfInBounds_toArray, List.set_cons_zero, List.set_cons_succ]
      refine v_done (by kernel_rfl) (fun W3 hW3 => ?_) _
      have own3 := hW3.done _ rfl
      have hE3 := hW3.env
      rw [← Hnx.out] at own3
      clear hW3
      go_wp2
      go_roundw
      case rel => exact ⟨j + 1, by omega, by congr 1 <;> omega, own3, hE3⟩
      case measure => simp [intOf]; omega
    · have ej : j = 64 := by omega
      subst ej
      have tk : ¬ (((16 + 64 : Nat) : Int)) < 80 := by omega
      have Hln := hd hln
      have Hgv := hd (And.intro hgv1 hgv2)
      clear hgv1 hgv2 hcap hj hlt hln
      have c0 : wr.cell? ⟨g, 9, none⟩ = some (.int .u64 ((n64 (Sha64.at_ s 0) : Nat) : Int)) := by
        have h := hE.st.cell (pre.size + 0)
        rw [← Hcs.out, mid64_get pre post s 0 (by rw [Hs.out]; omega), hpre] at h
        exact h
      have c1 : wr.cell? ⟨g, 10, none⟩ = some (.int .u64 ((n64 (Sha64.at_ s 1) : Nat) : Int)) := by
        have h := hE.st.cell (pre.size + 1)
        rw [← Hcs.out, mid64_get pre post s 1 (by rw [Hs.out]; omega), hpre] at h
        exact h
      have c2 : wr.cell? ⟨g, 11, none⟩ = some (.int .u64 ((n64 (Sha64.at_ s 2) : Nat) : Int)) := by
        have h := hE.st.cell (pre.size + 2)
        rw [← Hcs.out, mid64_get pre post s 2 (by rw [Hs.out]; omega), hpre] at h
        exact h
      have c3 : wr.cell? ⟨g, 12, none⟩ = some (.int .u64 ((n64 (Sha64.at_ s 3) : Nat) : Int)) := by
        have h := hE.st.cell (pre.size + 3)
        rw [← Hcs.out, mid64_get pre post s 3 (by rw [Hs.out]; omega), hpre] at h
        exact h
      have c4 : wr.cell? ⟨g, 13, none⟩ = some (.int .u64 ((n64 (Sha64.at_ s 4) : Nat) : Int)) := by
        have h := hE.st.cell (pre.size + 4)
        rw [← Hcs.out, mid64_get pre post s 4 (by rw [Hs.out]; omega), hpre] at h
        exact h
      have c5 : wr.cell? ⟨g, 14, none⟩ = some (.int .u64 ((n64 (Sha64.at_ s 5) : Nat) : Int)) := by
        have h := hE.st.cell (pre.size + 5)
        rw [← Hcs.out, mid64_get pre post s 5 (by rw [Hs.out]; omega), hpre] at h
        exact h
      have c6 : wr.cell? ⟨g, 15, none⟩ = some (.int .u64 ((n64 (Sha64.at_ s 6) : Nat) : Int)) := by
        have h := hE.st.cell (pre.size + 6)
        rw [← Hcs.out, mid64_get pre post s 6 (by rw [Hs.out]; omega), hpre] at h
        exact h
      have c7 : wr.cell? ⟨g, 16, none⟩ = some (.int .u64 ((n64 (Sha64.at_ s 7) : Nat) : Int)) := by
        have h := hE.st.cell (pre.size + 7)
        rw [← Hcs.out, mid64_get pre post s 7 (by rw [Hs.out]; omega), hpre] at h
        exact h
      go_wp2
      go_quiet (fail)
      go_wp2
      replace hE := hE.next (below_drewN (Below.refl _ _) nq)
      replace own := own.later (below_drewN (Below.refl wr.heap.size wr) nq)
      clear c0 c1 c2 c3 c4 c5 c6 c7
      obtain ⟨F, HF⟩ : ∃ F, Hd (iter (Sha64.round l) 80 (Sha64.toV s) = F) := ⟨_, ⟨rfl⟩⟩
      obtain ⟨V0, HV0⟩ : ∃ V, Hd (Sha64.toV s = V) := ⟨_, ⟨rfl⟩⟩
      have own' : OwnW64 (wr.drewN nq) Bs (.slice (some ⟨gv, 0, none⟩) l.length cap) l := own
      go_loopw [9, 10, 11, 12, 13, 14, 15, 16, 98] (fun a b c d e f g' h i wr => ∃ (k : Nat) (V : Sha64.V), k ≤ 80 ∧ i = .int .i64 (k : Int) ∧ iter (Sha64.round l) k (Sha64.toV s) = V ∧ a = W64 V.a ∧ b = W64 V.b ∧ c = W64 V.c ∧ d = W64 V.d ∧ e = W64 V.e ∧ f = W64 V.f ∧ g' = W64 V.g ∧ h = W64 V.h ∧ OwnW64 wr Bs (.slice (some ⟨gv, 0, none⟩) l.length cap) l ∧ BkE64 w Bs g gk z cs wr) (fun _ _ _ _ _ _ _ _ i _ => 80 - (intOf i).toNat)
      case atStart => exact ⟨0, _, by omega, rfl, rfl, rfl, rfl, rfl, rfl, rfl, rfl, rfl, rfl, own', hE⟩
      case round =>
        clear own own' hE
        obtain ⟨k, V, hk, rfl, hV, rfl, rfl, rfl, rfl, rfl, rfl, rfl, rfl, own, hE⟩ := hrel
        have HV := hd hV
        clear hV
        obtain ⟨a, b, c, d, ee, ff, q, h⟩ := V
        simp only [W64]
        by_cases hlt : k < 80
        · have tk : (k : Int) < 80 := by omega
          go_wp2
          refine u_start (S := fun _ => BkR64 w Bs g gk z cs gv cap l) 99 (by kernel_rfl) (BkR64.next ⟨hE, own⟩ (Below.refl _ _).drew) ?_
          clear own hE
          refine u_take 0 rfl (o := _) rfl (by kernel_rfl) (by kernel_rfl) (by kernel_rfl) (.int .u64 ((n64 h : Nat) : Int)) (fun _ _ _ h => h) (g_value rfl (wanted_plain rfl) (fun f W hW => run_move (by rfl) (by simp [Act.eval]) W)) ?_
          simp only [Act.put, List.getElem_toArray, List.getElem_cons_succ, List.getElem_cons_zero, List.setIfInBounds_toArray, List.set_cons_zero, List.set_cons_succ]
          refine u_take 1 rfl (o := _) rfl (by kernel_rfl) (by kernel_rfl) (by kernel_rfl) (.int .u64 ((n64 ee : Nat) : Int)) (fun _ _ _ h => h) (g_value rfl (wanted_plain rfl) (fun f W hW => run_move (by rfl) (by simp [Act.eval]) W)) ?_
          simp only [Act.put, List.getElem_toArray, List.getElem_cons_succ, List.getElem_cons_zero, List.setIfInBounds_toArray, List.set_cons_zero, List.set_cons_succ]
          refine u_take 2 rfl (o := _) rfl (by kernel_rfl) (by kernel_rfl) (by kernel_rfl) (.pointer (some ⟨z, 0, none⟩)) (fun _ _ _ h => h) (g_value rfl (wanted_plain rfl) (fun f W hW => run_fieldAddr (by rfl) (by simp [Act.eval]) (field_kind z 0 0 (by simp)))) ?_
          simp only [Act.put, List.getElem_toArray, List.getElem_cons_succ, List.getElem_cons_zero, List.setIfInBounds_toArray, List.set_cons_zero, List.set_cons_succ]
          refine u_take 3 rfl (o := _) rfl (by kernel_rfl) (by kernel_rfl) (by kernel_rfl) (.int .i64 64) (fun _ _ _ h => h) (g_value rfl (wanted_plain rfl) (fun f W hW => run_execOp_load (by rfl) (by simp [Act.eval]) (run_load_i64 _ _ W ((BkR64.env hW).kd.cell 0)))) ?_
          simp only [Act.put, List.getElem_toArray, List.getElem_cons_succ, List.getElem_cons_zero, List.setIfInBounds_toArray, List.set_cons_zero, List.set_cons_succ]
          refine u_take 4 rfl (o := _) rfl (by kernel_rfl) (by kernel_rfl) (by kernel_rfl) (.pointer (some ⟨z, 10, none⟩)) (fun _ _ _ h => h) (g_value rfl (wanted_plain rfl) (fun f W hW => run_fieldAddr (by rfl) (by simp [Act.eval]) (field_kind z 4 10 (by simp)))) ?_
          simp only [Act.put, List.getElem_toArray, List.getElem_cons_succ, List.getElem_cons_zero, List.setIfInBounds_toArray, List.set_cons_zero, List.set_cons_succ]
          refine u_take 5 rfl (o := _) rfl (by kernel_rfl) (by kernel_rfl) (by kernel_rfl) (.agg (three 14 18 41)) (fun _ _ _ h => h) (g_value rfl (wanted_plain rfl) (fun f W hW => run_execOp_load (by rfl) (by simp [Act.eval]) (run_loadVar_cells agg3 ⟨z, 10, none⟩ [.int .i64 14, .int .i64 18, .int .i64 41] rfl ((BkR64.env hW).kd.cells_at 10 _ (fun j v hv => by match j, hv with | 0, hv => exact hv | 1, hv => exact hv | 2, hv => exact hv | j + 3, hv => simp at hv)).is))) ?_
          simp only [Act.put, List.getElem_toArray, List.getElem_cons_succ, List.getElem_cons_zero, List.setIfInBounds_toArray, List.set_cons_zero, List.set_cons_succ]
          refine u_take 6 rfl (o := _) rfl (by kernel_rfl) (by kernel_rfl) (by kernel_rfl) (.int .u64 ((n64 (Sha64.fifth ee) : Nat) : Int)) (fun _ _ _ h => h) (g_call rfl (wanted_plain rfl) 66 _ _ rfl #[.int .u64 ((n64 ee : Nat) : Int), .int .i64 64, .agg (three 14 18 41), .bool false] (by simp [Act.eval]) (enter_mixed64 _) (fun f W hW => BkR64.call hW (mixed64_any ee 14 18 41 (by omega) (by omega) (by omega) false W))) ?_
          simp only [Act.put, List.getElem_toArray, List.getElem_cons_succ, List.getElem_cons_zero, List.setIfInBounds_toArray, List.set_cons_zero, List.set_cons_succ]
          refine u_take 7 rfl (o := _) rfl (by kernel_rfl) (by kernel_rfl) (by kernel_rfl) (.int .u64 ((n64 (h + Sha64.fifth ee) : Nat) : Int)) (fun _ _ _ h => h) (g_value rfl (wanted_plain rfl) (fun f W hW => run_add64 (by rfl) (h) (Sha64.fifth ee) (by simp [Act.eval]) (by simp [Act.eval]) W)) ?_
          simp only [Act.put, List.getElem_toArray, List.getElem_cons_succ, List.getElem_cons_zero, List.setIfInBounds_toArray, List.set_cons_zero, List.set_cons_succ]
          refine u_take 8 rfl (o := _) rfl (by kernel_rfl) (by kernel_rfl) (by kernel_rfl) (.int .u64 ((n64 q : Nat) : Int)) (fun _ _ _ h => h) (g_value rfl (wanted_plain rfl) (fun f W hW => run_move (by rfl) (by simp [Act.eval]) W)) ?_
          simp only [Act.put, List.getElem_toArray, List.getElem_cons_succ, List.getElem_cons_zero, List.setIfInBounds_toArray, List.set_cons_zero, List.set_cons_succ]
          refine u_take 9 rfl (o := _) rfl (by kernel_rfl) (by kernel_rfl) (by kernel_rfl) (.int .u64 ((n64 ee : Nat) : Int)) (fun _ _ _ h => h) (g_value rfl (wanted_plain rfl) (fun f W hW => run_move (by rfl) (by simp [Act.eval]) W)) ?_
          simp only [Act.put, List.getElem_toArray, List.getElem_cons_succ, List.getElem_cons_zero, List.setIfInBounds_toArray, List.set_cons_zero, List.set_cons_succ]
          refine u_take 10 rfl (o := _) rfl (by kernel_rfl) (by kernel_rfl) (by kernel_rfl) (.int .u64 ((n64 ff : Nat) : Int)) (fun _ _ _ h => h) (g_value rfl (wanted_plain rfl) (fun f W hW => run_move (by rfl) (by simp [Act.eval]) W)) ?_
          simp only [Act.put, List.getElem_toArray, List.getElem_cons_succ, List.getElem_cons_zero, List.setIfInBounds_toArray, List.set_cons_zero, List.set_cons_succ]
          refine u_take 11 rfl (o := _) rfl (by kernel_rfl) (by kernel_rfl) (by kernel_rfl) (.int .u64 ((n64 q : Nat) : Int)) (fun _ _ _ h => h) (g_value rfl (wanted_plain rfl) (fun f W hW => run_move (by rfl) (by simp [Act.eval]) W)) ?_
          simp only [Act.put, List.getElem_toArray, List.getElem_cons_succ, List.getElem_cons_zero, List.setIfInBounds_toArray, List.set_cons_zero, List.set_cons_succ]
          refine u_take 12 rfl (o := _) rfl (by kernel_rfl) (by kernel_rfl) (by kernel_rfl) (.int .u64 ((n64 (ff ^^^ q) : Nat) : Int)) (fun _ _ _ h => h) (g_value rfl (wanted_plain rfl) (fun f W hW => run_xor64 (by rfl) (ff) (q) (by simp [Act.eval]) (by simp [Act.eval]) W)) ?_
          simp only [Act.put, List.getElem_toArray, List.getElem_cons_succ, List.getElem_cons_zero, List.setIfInBounds_toArray, List.set_cons_zero, List.set_cons_succ]
          refine u_take 13 rfl (o := _) rfl (by kernel_rfl) (by kernel_rfl) (by kernel_rfl) (.int .u64 ((n64 (ee &&& (ff ^^^ q)) : Nat) : Int)) (fun _ _ _ h => h) (g_value rfl (wanted_plain rfl) (fun f W hW => run_and64 (by rfl) (ee) (ff ^^^ q) (by simp [Act.eval]) (by simp [Act.eval]) W)) ?_
          simp only [Act.put, List.getElem_toArray, List.getElem_cons_succ, List.getElem_cons_zero, List.setIfInBounds_toArray, List.set_cons_zero, List.set_cons_succ]
          refine u_take 14 rfl (o := _) rfl (by kernel_rfl) (by kernel_rfl) (by kernel_rfl) (.int .u64 ((n64 (q ^^^ ee &&& (ff ^^^ q)) : Nat) : Int)) (fun _ _ _ h => h) (g_value rfl (wanted_plain rfl) (fun f W hW => run_xor64 (by rfl) (q) (ee &&& (ff ^^^ q)) (by simp [Act.eval]) (by simp [Act.eval]) W)) ?_
          simp only [Act.put, List.getElem_toArray, List.getElem_cons_succ, List.getElem_cons_zero, List.setIfInBounds_toArray, List.set_cons_zero, List.set_cons_succ]
          refine u_take 15 rfl (o := _) rfl (by kernel_rfl) (by kernel_rfl) (by kernel_rfl) (.int .u64 ((n64 (h + Sha64.fifth ee + (q ^^^ ee &&& (ff ^^^ q))) : Nat) : Int)) (fun _ _ _ h => h) (g_value rfl (wanted_plain rfl) (fun f W hW => run_add64 (by rfl) (h + Sha64.fifth ee) (q ^^^ ee &&& (ff ^^^ q)) (by simp [Act.eval]) (by simp [Act.eval]) W)) ?_
          simp only [Act.put, List.getElem_toArray, List.getElem_cons_succ, List.getElem_cons_zero, List.setIfInBounds_toArray, List.set_cons_zero, List.set_cons_succ]
          refine u_take 16 rfl (o := _) rfl (by kernel_rfl) (by kernel_rfl) (by kernel_rfl) (.slice (some ⟨gk, 0, none⟩) 80 80) (fun _ _ _ h => h) (g_value rfl (wanted_plain rfl) (fun f W hW => run_move (by rfl) (by simp [Act.eval]) W)) ?_
          simp only [Act.put, List.getElem_toArray, List.getElem_cons_succ, List.getElem_cons_zero, List.setIfInBounds_toArray, List.set_cons_zero, List.set_cons_succ]
          refine u_take 17 rfl (o := _) rfl (by kernel_rfl) (by kernel_rfl) (by kernel_rfl) (.int .i64 (k : Int)) (fun _ _ _ h => h) (g_value rfl (wanted_plain rfl) (fun f W hW => run_move (by rfl) (by simp [Act.eval]) W)) ?_
          simp only [Act.put, List.getElem_toArray, List.getElem_cons_succ, List.getElem_cons_zero, List.setIfInBounds_toArray, List.set_cons_zero, List.set_cons_succ]
          refine u_take 18 rfl (o := _) rfl (by kernel_rfl) (by kernel_rfl) (by kernel_rfl) (.pointer (some ⟨gk, k, none⟩)) (fun _ _ _ h => h) (g_value rfl (wanted_plain rfl) (fun f W hW => run_indexAddr (by rfl) (by simp [Act.eval]) (by simp [Act.eval]) (index_sl64 gk 80 80 k (by omega)))) ?_
          simp only [Act.put, List.getElem_toArray, List.getElem_cons_succ, List.getElem_cons_zero, List.setIfInBounds_toArray, List.set_cons_zero, List.set_cons_succ]
          refine u_take 19 rfl (o := _) rfl (by kernel_rfl) (by kernel_rfl) (by kernel_rfl) (.int .u64 ((n64 (Sha64.at_ Sha64.K k) : Nat) : Int)) (fun _ _ _ h => h) (g_value rfl (wanted_plain rfl) (fun f W hW => run_execOp_load (by rfl) (by simp [Act.eval]) (run_load_u64 _ _ W (((BkR64.env hW).tb.cell k).trans (arr64_get _ k (by rw [Sha64.K_len]; omega)))))) ?_
          simp only [Act.put, List.getElem_toArray, List.getElem_cons_succ, List.getElem_cons_zero, List.setIfInBounds_toArray, List.set_cons_zero, List.set_cons_succ]
          refine u_take 20 rfl (o := _) rfl (by kernel_rfl) (by kernel_rfl) (by kernel_rfl) (.int .u64 ((n64 (h + Sha64.fifth ee + (q ^^^ ee &&& (ff ^^^ q)) + Sha64.at_ Sha64.K k) : Nat) : Int)) (fun _ _ _ h => h) (g_value rfl (wanted_plain rfl) (fun f W hW => run_add64 (by rfl) (h + Sha64.fifth ee + (q ^^^ ee &&& (ff ^^^ q))) (Sha64.at_ Sha64.K k) (by simp [Act.eval]) (by simp [Act.eval]) W)) ?_
          simp only [Act.put, List.getElem_toArray, List.getElem_cons_succ, List.getElem_cons_zero, List.setIfInBounds_toArray, List.set_cons_zero, List.set_cons_succ]
          refine u_take 21 rfl (o := _) rfl (by kernel_rfl) (by kernel_rfl) (by kernel_rfl) (.slice (some ⟨gv, 0, none⟩) l.length cap) (fun _ _ _ h => h) (g_value rfl (wanted_plain rfl) (fun f W hW => run_move (by rfl) (by simp [Act.eval]) W)) ?_
          simp only [Act.put, List.getElem_toArray, List.getElem_cons_succ, List.getElem_cons_zero, List.setIfInBounds_toArray, List.set_cons_zero, List.set_cons_succ]
          refine u_take 22 rfl (o := _) rfl (by kernel_rfl) (by kernel_rfl) (by kernel_rfl) (.int .i64 (k : Int)) (fun _ _ _ h => h) (g_value rfl (wanted_plain rfl) (fun f W hW => run_move (by rfl) (by simp [Act.eval]) W)) ?_
          simp only [Act.put, List.getElem_toArray, List.getElem_cons_succ, List.getElem_cons_zero, List.setIfInBounds_toArray, List.set_cons_zero, List.set_cons_succ]
          refine u_take 23 rfl (o := _) rfl (by kernel_rfl) (by kernel_rfl) (by kernel_rfl) (.pointer (some ⟨gv, k, none⟩)) (fun _ _ _ h => h) (g_value rfl (wanted_plain rfl) (fun f W hW => run_indexAddr (by rfl) (by simp [Act.eval]) (by simp [Act.eval]) (index_sl64 gv l.length cap k (by have := Hln.out; omega)))) ?_
          simp only [Act.put, List.getElem_toArray, List.getElem_cons_succ, List.getElem_cons_zero, List.setIfInBounds_toArray, List.set_cons_zero, List.set_cons_succ]
          refine u_take 24 rfl (o := _) rfl (by kernel_rfl) (by kernel_rfl) (by kernel_rfl) (.int .u64 ((n64 (Sha64.at_ l k) : Nat) : Int)) (fun _ _ _ h => h) (g_value rfl (wanted_plain rfl) (fun f W hW => run_execOp_load (by rfl) (by simp [Act.eval]) (run_load_u64 _ _ W ((BkR64.own hW).cell k (by have := Hln.out; omega))))) ?_
          simp only [Act.put, List.getElem_toArray, List.getElem_cons_succ, List.getElem_cons_zero, List.setIfInBounds_toArray, List.set_cons_zero, List.set_cons_succ]
          refine u_take 25 rfl (o := _) rfl (by kernel_rfl) (by kernel_rfl) (by kernel_rfl) (.int .u64 ((n64 (h + Sha64.fifth ee + (q ^^^ ee &&& (ff ^^^ q)) + Sha64.at_ Sha64.K k + Sha64.at_ l k) : Nat) : Int)) (fun _ _ _ h => h) (g_value rfl (wanted_plain rfl) (fun f W hW => run_add64 (by rfl) (h + Sha64.fifth ee + (q ^^^ ee &&& (ff ^^^ q)) + Sha64.at_ Sha64.K k) (Sha64.at_ l k) (by simp [Act.eval]) (by simp [Act.eval]) W)) ?_
          simp only [Act.put, List.getElem_toArray, List.getElem_cons_succ, List.getElem_cons_zero, List.setIfInBounds_toArray, List.set_cons_zero, List.set_cons_succ]
          refine u_take 26 rfl (o := _) rfl (by kernel_rfl) (by kernel_rfl) (by kernel_rfl) (.int .u64 ((n64 (h + Sha64.fifth ee + (q ^^^ ee &&& (ff ^^^ q)) + Sha64.at_ Sha64.K k + Sha64.at_ l k) : Nat) : Int)) (fun _ _ _ h => h) (g_value rfl (wanted_plain rfl) (fun f W hW => run_assign (by rfl) (by simp [Act.eval]) W)) ?_
          simp only [Act.put, List.getElem_toArray, List.getElem_cons_succ, List.getElem_cons_zero, List.setIfInBounds_toArray, List.set_cons_zero, List.set_cons_succ]
          refine u_done (by kernel_rfl) (fun W5 hW5 => ?_) _
          have hW5 : BkR64 w Bs g gk z cs gv cap l W5 := hW5
          have hfirst : Cells W5 ⟨z, 7, none⟩ [.int .i64 28, .int .i64 34, .int .i64 39] := hW5.env.kd.cells_at 7 _ (fun j v hv => by match j, hv with | 0, hv => exact hv | 1, hv => exact hv | 2, hv => exact hv | j + 3, hv => simp at hv)
          have hbits : W5.cell? ⟨z, 0, none⟩ = some (.int .i64 64) := hW5.env.kd.cell 0
          go_wp2_with (first | (go_at_call 66; refine (mixed64_any a 28 34 39 (by omega) (by omega) (by omega) false _).mono ?_; rintro e5 w5 ⟨rfl, hB5⟩) | (refine wpl_load rfl _ _ rfl ⟨z, 7, none⟩ rfl 3 agg3 [.int .i64 28, .int .i64 34, .int .i64 39] rfl hfirst ?_))
          exact ⟨⟨k + 1, Sha64.round l k ⟨a, b, c, d, ee, ff, q, h⟩, by omega, by congr 1 <;> omega, by rw [iter, HV.out], rfl, rfl, rfl, rfl, rfl, rfl, rfl, rfl, hW5.own.later hB5, hW5.env.next hB5⟩, by simp [intOf]; omega⟩
        · have ek : k = 80 := by omega
          subst ek
          have tk : ¬ ((80 : Nat) : Int) < 80 := by omega
          have Hblock := hd (show Sha64.block s l0 = iter (Sha64.add8 [a, b, c, d, ee, ff, q, h]) 8 s by rw [Sha64.block, Hll.out, HV.out]; rfl)
          have hst3 := hE.st
          have hk3 := hE.kept
          clear own hE
          obtain ⟨u, Hu⟩ : ∃ u, Hd ([a, b, c, d, ee, ff, q, h] = u) := ⟨_, ⟨rfl⟩⟩
          have Hul := hd (show u.length = 8 by rw [← Hu.out]; rfl)
          rw [Hu.out] at Hblock
          have Hix := hd (fun (k : Nat) (hk : k < 8) (W : World) => by
            have hh := run_index_arr64 (w := W) u Hul.out k hk
            rw [← Hu.out] at hh
            exact (show (Instr.index 79 (.agg #[.int .u64 ((n64 a : Nat) : Int), .int .u64 ((n64 b : Nat) : Int), .int .u64 ((n64 c : Nat) : Int), .int .u64 ((n64 d : Nat) : Int), .int .u64 ((n64 ee : Nat) : Int), .int .u64 ((n64 ff : Nat) : Int), .int .u64 ((n64 q : Nat) : Int), .int .u64 ((n64 h : Nat) : Int)]) (.int .i64 (k : Int))).run Tryd.prog W = .ok (.int .u64 ((n64 (Sha64.at_ [a, b, c, d, ee, ff, q, h] k) : Nat) : Int)) W from hh))
          rw [← Hcs.out] at hst3
          go_wp2
          go_loopw [165] (fun i wr => ∃ k : Nat, k ≤ 8 ∧ i = .int .i64 (k : Int) ∧ Blk wr g 81 (pre ++ arr64 (iter (Sha64.add8 u) k s) ++ post) ∧ Kept Bs g w wr) (fun i _ => 8 - (intOf i).toNat)
          case atStart => exact ⟨0, by omega, rfl, hst3, hk3⟩
          case round =>
            clear hst3 hk3
            obtain ⟨k, hk, rfl, hb, hK⟩ := hrel
            obtain ⟨sk, Hsk⟩ : ∃ y, Hd (iter (Sha64.add8 u) k s = y) := ⟨_, ⟨rfl⟩⟩
            rw [Hsk.out] at hb
            have Hskl := hd (show sk.length = 8 by rw [← Hsk.out, Sha64.add8_len, Hs.out])
            by_cases hlt : k < 8
            · have tk2 : (k : Int) < 8 := by omega
              have ck : wr.cell? ⟨g, 9 + k, none⟩ = some (.int .u64 ((n64 (Sha64.at_ sk k) : Nat) : Int)) := by
                have h := hb.cell (pre.size + k)
                rw [mid64_get pre post sk k (by rw [Hskl.out]; omega), hpre] at h
                exact h
              have fk := hb.frozen (9 + k)
              have hix := Hix.out k hlt
              rw [Hu.out] at hix
              have Hnx := hd (show iter (Sha64.add8 u) (k + 1) s = sk.set k (Sha64.at_ sk k + Sha64.at_ u k) by rw [iter, Hsk.out]; rfl)
              go_wp2
              go_region
              go_wp2
              clear hix
              go_roundw
              case rel =>
                refine ⟨k + 1, by omega, by go_num, ?_, (hK.trans (grown_kept (grew_setCell (World.grownBy.refl wr (some g)) (9 + k) _) (fun k hk => .inr (by injection hk with hk; exact hk.symm)) (Nat.le_trans hB hK.size))).trans (below_kept (Below.refl Bs _).drew (Nat.le_refl _))⟩
                have h := hb.set_ (9 + k) (W64 (Sha64.at_ sk k + Sha64.at_ u k))
                rw [← hpre, mid64_set pre post sk k _ (by rw [Hskl.out]; omega), hpre] at h
                rw [Hnx.out]
                exact h.drew
              case measure => simp [intOf]; omega
            · have ek : k = 8 := by omega
              subst ek
              have tk2 : ¬ ((8 : Nat) : Int) < 8 := by omega
              go_wp2
              go_end0
              refine ⟨rfl, ?_, hK⟩
              rw [Hblock.out, Hsk.out]
              first | exact hb | (rw [← Array.append_assoc]; exact hb)
end Go.Proofs.YthigbggacgiamaaDoor

namespace Go.Proofs.YthigbggacgiamaaDoor
open Go.RowKit
/-- How many places a slice value has. -/
def lenOf3 : Value → Nat
  | .slice _ n _ => n
  | _ => 0
set_option maxHeartbeats 4000000 in
set_option maxRecDepth 100000 in
theorem words32_any (A : Option Addr) (c : Nat) (b : List UInt8) (w : World) (hr : ReadsB w w.heap.size A 64 b) (hc : 64 ≤ c) :
    Calls Tryd.prog 55 #[.slice A 64 c, .int .i64 4, .int .i64 64] w fun e w' => ∃ v, e = .returned v ∧ OwnW32 w' w.heap.size v (Sha32.words b) ∧ Below w.heap.size w w' := by
  have Hbl := hd hr.len
  obtain ⟨i0, hi0, hz0, hz1, hz2⟩ := info_parts u32_info
  have hmk : ∀ u : World, (Instr.makeSlice 109 (.int .i64 0) (.int .i64 64)).run Tryd.prog u = .ok (.slice (some ⟨u.heap.size, 0, none⟩) 0 64) (u.alloc (.cells (madeCells #[.int .u32 0] 64) 32)) := fun u => by
    have h := run_make (P := Tryd.prog) (w := u) 109 32 i0 _ Tryd.underlying109 hi0 hz0 .i64 .i64 0 64 (by omega) (by omega) (by rw [hz2]; omega) (by omega)
    rw [hz1] at h
    exact h
  have own0 : OwnW32 (w.alloc (.cells (madeCells #[.int .u32 0] 64) 32)) w.heap.size (.slice (some ⟨w.heap.size, 0, none⟩) 0 64) [] :=
    ⟨rfl, .inr ⟨w.heap.size, 64, _, rfl, Nat.le_refl _, heap_alloc_new _ _, Nat.zero_le _, by unfold maxLen; omega, by simp [madeCells], rfl⟩⟩
  have hBel0 := (Below.refl w.heap.size w).alloc (Nat.le_refl _) (.cells (madeCells #[.int .u32 0] 64) 32)
  go_enter Tryd.func55, Tryd.ntmps55
  go_wp2_with (rw [hmk])
  clear hmk
  go_loopw [0, 7] (fun s v wr => ∃ (j : Nat) (A' : Option Addr) (n' c' : Nat), j ≤ 16 ∧ s = .slice A' n' c' ∧ ReadsB w w.heap.size A' n' (b.drop (4 * j)) ∧ n' = 64 - 4 * j ∧ n' ≤ c' ∧ OwnW32 wr w.heap.size v (Sha32.wordsTo b j) ∧ Below w.heap.size w wr) (fun s _ _ => lenOf3 s)
  case atStart => exact ⟨0, A, 64, c, by omega, rfl, by rw [Nat.mul_zero, List.drop_zero]; exact hr, by omega, hc, own0, hBel0⟩
  case round =>
    clear own0 hBel0
    obtain ⟨j, A', n', c', hj, rfl, hR, hn', hnc, own, hB⟩ := hrel
    have Hn := hd hn'
    clear hn'
    by_cases hlt : j < 16
    · have tk : (4 : Int) ≤ (n' : Int) := by have := Hn.out; omega
      have t4 : (4 : Int) ≤ (c' : Int) := by have := Hn.out; omega
      go_wp2
      go_loopw [8, 24] (fun x i wr => ∃ (k : Nat), k ≤ 4 ∧ i = .int .i64 (k : Int) ∧ x = .int .u32 ((n32 (Sha32.wordTo (b.drop (4 * j)) k) : Nat) : Int) ∧ OwnW32 wr w.heap.size u7 (Sha32.wordsTo b j) ∧ Below w.heap.size w wr) (fun _ i _ => 4 - (intOf i).toNat)
      case atStart => exact ⟨0, by omega, rfl, rfl, own, hB⟩
      case round =>
        clear own hB
        obtain ⟨k, hk, rfl, rfl, own, hB⟩ := hrel
        by_cases hlk : k < 4
        · have tk2 : (k : Int) < 4 := by omega
          obtain ⟨ad, hA, had, hcw⟩ := hR.cell (k := k) (by have := Hn.out; omega)
          subst hA
          have ck : wr.cell? (ad.add k) = some (.int .u8 (n8 (nth (b.drop (4 * j)) k))) := (hB.cell (by rw [block_of_add]; exact had)).trans hcw
          have Hx := hd (show Sha32.wordTo (b.drop (4 * j)) (k + 1) = Sha32.wordTo (b.drop (4 * j)) k <<< 8 ||| (nth (b.drop (4 * j)) k).toUInt32 from rfl)
          go_wp2
          go_roundw
          case rel => exact ⟨k + 1, by omega, by go_num, by rw [Hx.out], own, hB⟩
          case measure => simp [intOf]; omega
        · have ek : k = 4 := by omega
          subst ek
          have tk2 : ¬ ((4 : Nat) : Int) < 4 := by omega
          obtain ⟨x, Hx⟩ : ∃ x, Hd (Sha32.wordTo (b.drop (4 * j)) 4 = x) := ⟨_, ⟨rfl⟩⟩
          rw [Hx.out]
          have Hnx := hd (show Sha32.wordsTo b (j + 1) = Sha32.wordsTo b j ++ [x] by rw [Sha32.wordsTo, Hx.out])
          have own1 := own.alloc (.cells #[W32 x] 32)
          have hr1 := ReadsW32.one wr x
          have hB1 : w.heap.size ≤ (wr.alloc (.cells #[W32 x] 32)).heap.size := by have := hB.size; simp; omega
          have hBa := hB.alloc hB.size (.cells #[W32 x] 32)
          by_cases hcm : c' = 4
          · go_wp2_with (at_builtin; refine wpl_appendW32 rfl _ _ rfl w.heap.size u7 (Sha32.wordsTo b j) rfl own1 (wr.heap.size + 1) _ 1 1 [x] rfl hr1 (by rw [Sha32.wordsTo_len]; simp; omega) hB1 ?_; intro v3 w3 own3 gr3; have hB3 : Below w.heap.size w w3 := hBa.grown gr3 hB1 (fun k hk => (own.own.lt k hk).1))
            rw [← Hnx.out] at own3
            go_roundw
            case rel =>
              have hdr := hR.drop (k := 4) (by omega) hnc
              rw [if_pos hcm, List.drop_drop] at hdr
              exact ⟨j + 1, _, _, _, by omega, rfl, by rw [show 4 * (j + 1) = 4 * j + 4 by omega]; exact hdr, by have := Hn.out; omega, by omega, own3, hB3⟩
            case measure => simp [lenOf3]; omega
          · go_wp2_with (at_builtin; refine wpl_appendW32 rfl _ _ rfl w.heap.size u7 (Sha32.wordsTo b j) rfl own1 (wr.heap.size + 1) _ 1 1 [x] rfl hr1 (by rw [Sha32.wordsTo_len]; simp; omega) hB1 ?_; intro v3 w3 own3 gr3; have hB3 : Below w.heap.size w w3 := hBa.grown gr3 hB1 (fun k hk => (own.own.lt k hk).1))
            rw [← Hnx.out] at own3
            go_roundw
            case rel =>
              have hdr := hR.drop (k := 4) (by omega) hnc
              rw [if_neg hcm, List.drop_drop] at hdr
              exact ⟨j + 1, _, _, _, by omega, rfl, by rw [show 4 * (j + 1) = 4 * j + 4 by omega]; exact hdr, by have := Hn.out; omega, by omega, own3, hB3⟩
            case measure => simp [lenOf3]; omega
    · have ej : j = 16 := by omega
      subst ej
      have tk : ¬ (4 : Int) ≤ (n' : Int) := by have := Hn.out; omega
      go_wp2
      go_ret
      exact ⟨_, rfl, own, hB⟩
set_option maxHeartbeats 4000000 in
set_option maxRecDepth 100000 in
theorem words64_any (A : Option Addr) (c : Nat) (b : List UInt8) (w : World) (hr : ReadsB w w.heap.size A 128 b) (hc : 128 ≤ c) :
    Calls Tryd.prog 57 #[.slice A 128 c, .int .i64 8, .int .i64 80] w fun e w' => ∃ v, e = .returned v ∧ OwnW64 w' w.heap.size v (Sha64.words b) ∧ Below w.heap.size w w' := by
  have Hbl := hd hr.len
  obtain ⟨i0, hi0, hz0, hz1, hz2⟩ := info_parts u64_info
  have hmk : ∀ u : World, (Instr.makeSlice 117 (.int .i64 0) (.int .i64 80)).run Tryd.prog u = .ok (.slice (some ⟨u.heap.size, 0, none⟩) 0 80) (u.alloc (.cells (madeCells #[.int .u64 0] 80) 31)) := fun u => by
    have h := run_make (P := Tryd.prog) (w := u) 117 31 i0 _ Tryd.underlying117 hi0 hz0 .i64 .i64 0 80 (by omega) (by omega) (by rw [hz2]; omega) (by omega)
    rw [hz1] at h
    exact h
  have own0 : OwnW64 (w.alloc (.cells (madeCells #[.int .u64 0] 80) 31)) w.heap.size (.slice (some ⟨w.heap.size, 0, none⟩) 0 80) [] :=
    ⟨rfl, .inr ⟨w.heap.size, 80, _, rfl, Nat.le_refl _, heap_alloc_new _ _, Nat.zero_le _, by unfold maxLen; omega, by simp [madeCells], rfl⟩⟩
  have hBel0 := (Below.refl w.heap.size w).alloc (Nat.le_refl _) (.cells (madeCells #[.int .u64 0] 80) 31)
  go_enter Tryd.func57, Tryd.ntmps57
  go_wp2_with (rw [hmk])
  clear hmk
  go_loopw [0, 7] (fun s v wr => ∃ (j : Nat) (A' : Option Addr) (n' c' : Nat), j ≤ 16 ∧ s = .slice A' n' c' ∧ ReadsB w w.heap.size A' n' (b.drop (8 * j)) ∧ n' = 128 - 8 * j ∧ n' ≤ c' ∧ OwnW64 wr w.heap.size v (Sha64.wordsTo b j) ∧ Below w.heap.size w wr) (fun s _ _ => lenOf3 s)
  case atStart => exact ⟨0, A, 128, c, by omega, rfl, by rw [Nat.mul_zero, List.drop_zero]; exact hr, by omega, hc, own0, hBel0⟩
  case round =>
    clear own0 hBel0
    obtain ⟨j, A', n', c', hj, rfl, hR, hn', hnc, own, hB⟩ := hrel
    have Hn := hd hn'
    clear hn'
    by_cases hlt : j < 16
    · have tk : (8 : Int) ≤ (n' : Int) := by have := Hn.out; omega
      have t4 : (8 : Int) ≤ (c' : Int) := by have := Hn.out; omega
      go_wp2
      go_loopw [8, 24] (fun x i wr => ∃ (k : Nat), k ≤ 8 ∧ i = .int .i64 (k : Int) ∧ x = .int .u64 ((n64 (Sha64.wordTo (b.drop (8 * j)) k) : Nat) : Int) ∧ OwnW64 wr w.heap.size u7 (Sha64.wordsTo b j) ∧ Below w.heap.size w wr) (fun _ i _ => 8 - (intOf i).toNat)
      case atStart => exact ⟨0, by omega, rfl, rfl, own, hB⟩
      case round =>
        clear own hB
        obtain ⟨k, hk, rfl, rfl, own, hB⟩ := hrel
        by_cases hlk : k < 8
        · have tk2 : (k : Int) < 8 := by omega
          obtain ⟨ad, hA, had, hcw⟩ := hR.cell (k := k) (by have := Hn.out; omega)
          subst hA
          have ck : wr.cell? (ad.add k) = some (.int .u8 (n8 (nth (b.drop (8 * j)) k))) := (hB.cell (by rw [block_of_add]; exact had)).trans hcw
          have Hx := hd (show Sha64.wordTo (b.drop (8 * j)) (k + 1) = Sha64.wordTo (b.drop (8 * j)) k <<< 8 ||| (nth (b.drop (8 * j)) k).toUInt64 from rfl)
          go_wp2
          go_roundw
          case rel => exact ⟨k + 1, by omega, by go_num, by rw [Hx.out], own, hB⟩
          case measure => simp [intOf]; omega
        · have ek : k = 8 := by omega
          subst ek
          have tk2 : ¬ ((8 : Nat) : Int) < 8 := by omega
          obtain ⟨x, Hx⟩ : ∃ x, Hd (Sha64.wordTo (b.drop (8 * j)) 8 = x) := ⟨_, ⟨rfl⟩⟩
          rw [Hx.out]
          have Hnx := hd (show Sha64.wordsTo b (j + 1) = Sha64.wordsTo b j ++ [x] by rw [Sha64.wordsTo, Hx.out])
          have own1 := own.alloc (.cells #[W64 x] 31)
          have hr1 := ReadsW64.one wr x
          have hB1 : w.heap.size ≤ (wr.alloc (.cells #[W64 x] 31)).heap.size := by have := hB.size; simp; omega
          have hBa := hB.alloc hB.size (.cells #[W64 x] 31)
          by_cases hcm : c' = 8
          · go_wp2_with (at_builtin; refine wpl_appendW64 rfl _ _ rfl w.heap.size u7 (Sha64.wordsTo b j) rfl own1 (wr.heap.size + 1) _ 1 1 [x] rfl hr1 (by rw [Sha64.wordsTo_len]; simp; omega) hB1 ?_; intro v3 w3 own3 gr3; have hB3 : Below w.heap.size w w3 := hBa.grown gr3 hB1 (fun k hk => (own.own.lt k hk).1))
            rw [← Hnx.out] at own3
            go_roundw
            case rel =>
              have hdr := hR.drop (k := 8) (by omega) hnc
              rw [if_pos hcm, List.drop_drop] at hdr
              exact ⟨j + 1, _, _, _, by omega, rfl, by rw [show 8 * (j + 1) = 8 * j + 8 by omega]; exact hdr, by have := Hn.out; omega, by omega, own3, hB3⟩
            case measure => simp [lenOf3]; omega
          · go_wp2_with (at_builtin; refine wpl_appendW64 rfl _ _ rfl w.heap.size u7 (Sha64.wordsTo b j) rfl own1 (wr.heap.size + 1) _ 1 1 [x] rfl hr1 (by rw [Sha64.wordsTo_len]; simp; omega) hB1 ?_; intro v3 w3 own3 gr3; have hB3 : Below w.heap.size w w3 := hBa.grown gr3 hB1 (fun k hk => (own.own.lt k hk).1))
            rw [← Hnx.out] at own3
            go_roundw
            case rel =>
              have hdr := hR.drop (k := 8) (by omega) hnc
              rw [if_neg hcm, List.drop_drop] at hdr
              exact ⟨j + 1, _, _, _, by omega, rfl, by rw [show 8 * (j + 1) = 8 * j + 8 by omega]; exact hdr, by have := Hn.out; omega, by omega, own3, hB3⟩
            case measure => simp [lenOf3]; omega
    · have ej : j = 16 := by omega
      subst ej
      have tk : ¬ (8 : Int) ≤ (n' : Int) := by have := Hn.out; omega
      go_wp2
      go_ret
      exact ⟨_, rfl, own, hB⟩
namespace Sha
/-- A word's bytes, the highest first: the first k of n. -/
def spreadTo (x : UInt64) (n : Nat) : Nat → List UInt8
  | 0 => []
  | k + 1 => spreadTo x n k ++ [(shr64 x (8 * (n - 1 - k))).toUInt8]
theorem spreadTo_len (x : UInt64) (n : Nat) : ∀ k, (spreadTo x n k).length = k
  | 0 => rfl
  | k + 1 => by rw [spreadTo, List.length_append, spreadTo_len x n k]; rfl
end Sha
set_option maxHeartbeats 2000000 in
set_option maxRecDepth 100000 in
theorem spread_any (B : Nat) (v : Value) (l : List UInt8) (x : UInt64) (n : Nat) (hn : n ≤ 8) (w : World) (hown : OwnB w B v l) (hl : l.length ≤ 1099511627776) (hB : B ≤ w.heap.size) :
    Calls Tryd.prog 58 #[v, .int .u64 ((n64 x : Nat) : Int), .int .i64 (n : Int)] w fun e w' => ∃ v', e = .returned v' ∧ OwnB w' B v' (l ++ Sha.spreadTo x n n) ∧ Below B w w' := by
  have Hl := hd hl
  have v1 : IntKind.i64.wrap ((n : Int) - 1) = (n : Int) - 1 := IntWalk.i64_in _ (by omega)
  go_enter Tryd.func58, Tryd.ntmps58
  go_wp2
  go_loopw [0, 7] (fun v i wr => ∃ k : Nat, k ≤ n ∧ i = .int .i64 ((n : Int) - 1 - (k : Int)) ∧ OwnB wr B v (l ++ Sha.spreadTo x n k) ∧ Below B w wr) (fun _ i _ => (intOf i + 1).toNat)
  case atStart => exact ⟨0, by omega, by congr 1 <;> omega, by rw [Sha.spreadTo, List.append_nil]; exact hown, Below.refl _ _⟩
  case round =>
    obtain ⟨k, hk, rfl, own, hb⟩ := hrel
    obtain ⟨A3, c3, e3⟩ := own.slice
    obtain ⟨m, Hm⟩ : ∃ m, Hd ((l ++ Sha.spreadTo x n k).length = m) := ⟨_, ⟨rfl⟩⟩
    rw [Hm.out] at e3
    subst e3
    have Hmm := hd (show m = l.length + k by rw [← Hm.out, List.length_append, Sha.spreadTo_len])
    by_cases hlt : k < n
    · obtain ⟨j, Hj⟩ : ∃ j, Hd (n - 1 - k = j) := ⟨_, ⟨rfl⟩⟩
      have ej : (n : Int) - 1 - (k : Int) = (j : Int) := by have := Hj.out; omega
      rw [ej]
      have t0 : (0 : Int) ≤ (j : Int) := by omega
      obtain ⟨J, HJ⟩ : ∃ J, Hd (8 * j = J) := ⟨_, ⟨rfl⟩⟩
      have e8 : (8 : Int) * (j : Int) = (J : Int) := by have := HJ.out; omega
      have w1 : IntKind.i64.wrap (J : Int) = (J : Int) := IntWalk.i64_in _ (by have := HJ.out; have := Hj.out; omega)
      obtain ⟨y, Hy⟩ : ∃ y, Hd ((shr64 x J).toUInt8 = y) := ⟨_, ⟨rfl⟩⟩
      have Hnx := hd (show l ++ Sha.spreadTo x n (k + 1) = (l ++ Sha.spreadTo x n k) ++ [y] by rw [Sha.spreadTo, Hj.out, HJ.out, Hy.out, List.append_assoc])
      have hcl : (l ++ Sha.spreadTo x n k).length + [y].length ≤ 140737488355328 := by rw [Hm.out, Hmm.out]; have := Hl.out; simp; omega
      have own1 := own.alloc (.cells #[.int .u8 ((n8 y : Nat) : Int)] 5)
      have hr1 := ReadsB.one wr y
      have hBw : B ≤ wr.heap.size := Nat.le_trans hB hb.size
      have hB1 : B ≤ (wr.alloc (.cells #[.int .u8 ((n8 y : Nat) : Int)] 5)).heap.size := by simp; omega
      go_wp2_with (first | rw [Hy.out] | (at_builtin; refine wpl_appendB rfl _ _ rfl B (.slice A3 m c3) (l ++ Sha.spreadTo x n k) rfl own1 (wr.heap.size + 1) _ 1 1 [y] rfl hr1 hcl hB1 ?_; intro v3 w3 own3 gr3 at3; have hb3 : Below B w w3 := below_appended (hb.alloc hBw (.cells #[.int .u8 ((n8 y : Nat) : Int)] 5)) own1 gr3 (Nat.le_refl _) hB1))
      clear own1 hr1 hB1 gr3 at3 own
      rw [← Hnx.out] at own3
      go_roundw
      case rel => exact ⟨k + 1, by omega, by have := Hj.out; congr 1 <;> omega, own3, hb3⟩
      case measure => simp [intOf] <;> omega
    · have ek : k = n := by omega
      subst ek
      have ej : (k : Int) - 1 - (k : Int) = -1 := by omega
      rw [ej]
      go_wp2
      go_ret
      exact ⟨_, rfl, own, hb⟩
theorem size_1 (w : World) : Calls Tryd.prog 20 #[.int .i64 1] w fun e w' => e = .returned (.int .i64 32) ∧ w = w' := by
  go_enter Tryd.func20, Tryd.ntmps20
  go_wp2
  go_ret
  exact ⟨rfl, rfl⟩
theorem blockSize_1 (w : World) : Calls Tryd.prog 41 #[.int .i64 1] w fun e w' => e = .returned (.int .i64 64) ∧ w = w' := by
  go_enter Tryd.func41, Tryd.ntmps41
  go_wp2
  go_ret
  exact ⟨rfl, rfl⟩
theorem size_2 (w : World) : Calls Tryd.prog 20 #[.int .i64 2] w fun e w' => e = .returned (.int .i64 48) ∧ w = w' := by
  go_enter Tryd.func20, Tryd.ntmps20
  go_wp2
  go_ret
  exact ⟨rfl, rfl⟩
theorem blockSize_2 (w : World) : Calls Tryd.prog 41 #[.int .i64 2] w fun e w' => e = .returned (.int .i64 128) ∧ w = w' := by
  go_enter Tryd.func41, Tryd.ntmps41
  go_wp2
  go_ret
  exact ⟨rfl, rfl⟩
theorem size_3 (w : World) : Calls Tryd.prog 20 #[.int .i64 3] w fun e w' => e = .returned (.int .i64 64) ∧ w = w' := by
  go_enter Tryd.func20, Tryd.ntmps20
  go_wp2
  go_ret
  exact ⟨rfl, rfl⟩
theorem blockSize_3 (w : World) : Calls Tryd.prog 41 #[.int .i64 3] w fun e w' => e = .returned (.int .i64 128) ∧ w = w' := by
  go_enter Tryd.func41, Tryd.ntmps41
  go_wp2
  go_ret
  exact ⟨rfl, rfl⟩
theorem size_none (h : Int) (h1 : ¬ h = 1) (h2 : ¬ h = 2) (h3 : ¬ h = 3) (w : World) : Calls Tryd.prog 20 #[.int .i64 h] w fun e w' => e = .returned (.int .i64 0) ∧ w = w' := by
  go_enter Tryd.func20, Tryd.ntmps20
  go_wp2
  go_ret
  exact ⟨rfl, rfl⟩
theorem blockSize_none (h : Int) (h1 : ¬ h = 1) (h2 : ¬ h = 2) (h3 : ¬ h = 3) (w : World) : Calls Tryd.prog 41 #[.int .i64 h] w fun e w' => e = .returned (.int .i64 0) ∧ w = w' := by
  go_enter Tryd.func41, Tryd.ntmps41
  go_wp2
  go_ret
  exact ⟨rfl, rfl⟩
end Go.Proofs.YthigbggacgiamaaDoor

namespace Go.Proofs.YthigbggacgiamaaDoor
open Go.RowKit
section
variable {w : World} {B B' : Nat} {A D : Option Addr} {n m c : Nat} {l t : List UInt8}
theorem run_appendNone (ty : TypeId) (hr : ReadsB w B A n l) (c : Nat) (hA : A = none → n = 0) : (Builtin.append_ #[30, 30] ty #[.slice A n n, .slice D 0 c]).run Tryd.prog w = .ok (.slice A n n) w := by
  obtain ⟨i0, hi0, hz0, hz1, hz2⟩ := info_parts u8_info
  cases A with
  | none =>
    have := hA rfl
    subst this
    cases D <;> simp [Builtin.append_, run_underlying Tryd.underlying30, sizeOf, typeInfo, hi0, Builtin.lenOf, Builtin.firstCells, storeCells, loadCells, loadCellsFrom]
  | some b => cases D <;> simp [Builtin.append_, run_underlying Tryd.underlying30, sizeOf, typeInfo, hi0, Builtin.lenOf, Builtin.firstCells, storeCells, loadCells, loadCellsFrom]
theorem run_appendR {o : Oper} {ρ : Operand → Value} {s x : Operand} (ho : o.op = .call { callee := .builtin .append, args := #[s, x], argTypes := #[30, 30] })
    (hs : ρ s = .slice A n n) (hx : ρ x = .slice D m c) (hr : ReadsB w B A n l) (hA : A = none → n = 0) (ht : ReadsB w B' D m t) (hlen : n + m ≤ 140737488355328) (hB : B ≤ w.heap.size) :
    ∃ A' c' w', (execOp ρ o).run Tryd.prog w = .ok (.value (.slice A' (n + m) c')) w' ∧ ReadsB w' w'.heap.size A' (n + m) (l ++ t) ∧ n + m ≤ c' ∧ (A' = none → n + m = 0) ∧ w.grownBy w' none ∧ (∀ b, A' = some b → (A = some b ∧ m = 0) ∨ w.heap.size ≤ b.block) := by
  have hrun : ∀ v' w', (Builtin.append_ #[30, 30] o.type #[.slice A n n, .slice D m c]).run Tryd.prog w = .ok v' w' → (execOp ρ o).run Tryd.prog w = .ok (.value v') w' := fun v' w' h => by
    unfold execOp
    simp only [ho, resolve, invoke, builtin, Sem.run_bind, Sem.run_pure, Result.andThen_ok, List.map_toArray, List.map_cons, List.map_nil, hs, hx, h]
  rcases Nat.eq_zero_or_pos m with h0 | h0
  · subst h0
    have ht0 : t = [] := List.eq_nil_of_length_eq_zero ht.len
    subst ht0
    refine ⟨A, n, w, hrun _ _ (run_appendNone o.type hr c hA), ?_, by omega, hA, World.grownBy.refl w _, fun b hb => .inl ⟨hb, rfl⟩⟩
    rw [List.append_nil]
    exact ⟨hr.len, hr.is.more hB⟩
  · obtain ⟨i0, hi0, hz0, hz1, hz2⟩ := info_parts u8_info
    obtain ⟨ad, hD, _, hc⟩ := ht.is.2 h0
    subst hD
    have hfin : ∀ v' w', OwnB w' w.heap.size v' (l ++ t) → ∃ A' c', v' = .slice A' (n + m) c' ∧ ReadsB w' w'.heap.size A' (n + m) (l ++ t) ∧ n + m ≤ c' ∧ (A' = none → n + m = 0) ∧ (∀ b, A' = some b → w.heap.size ≤ b.block) := fun v' w' h => by
      have hln : (l ++ t).length = n + m := by rw [List.length_append, hr.len, ht.len]
      obtain ⟨g, cap, e, hge, _, hcap⟩ := h.form (by rw [hln]; omega)
      subst e
      have h2 := h.reads_any.2
      rw [hln] at h2 hcap ⊢
      exact ⟨_, cap, rfl, h2, hcap, (fun e => by cases e), (fun b hb => by injection hb with hb; subst hb; exact hge)⟩
    cases A with
    | none =>
      have hn := hA rfl
      subst hn
      have hl : l = [] := List.eq_nil_of_length_eq_zero hr.len
      subst hl
      have hm := ht.len
      obtain ⟨v', w', h1, h2, h3, _⟩ := run_append_any (P := Tryd.prog) (w := w) w.heap.size 30 o.type 5 i0 _ 1 1 Tryd.underlying30 hi0 hz0 hz1 hz2 rfl (by omega) (.slice none 0 0) 0 [] (OwnB.nil w w.heap.size).own B' (some ad) m c (t.map U8) ht.is (by intro u hu; obtain ⟨x, _, rfl⟩ := List.mem_map.1 hu; rfl) (by unfold maxLen; omega) (by omega) (Nat.le_refl _)
      obtain ⟨A', c', e, h4, h5, h6, h7⟩ := hfin v' w' ⟨by rw [List.nil_append, hm]; rw [Nat.zero_add] at h2; exact h2⟩
      subst e
      exact ⟨A', c', w', hrun _ _ h1, h4, h5, h6, h3, fun b hb => .inr (h7 b hb)⟩
    | some b =>
      have hb : ∀ j u, (l.map U8)[j]? = some u → w.cell? (b.add j) = some u := fun j u hu => by
        rcases Nat.eq_zero_or_pos n with h | h
        · have hl : l = [] := List.eq_nil_of_length_eq_zero (by rw [hr.len, h])
          subst hl; simp at hu
        · obtain ⟨b', e, _, hc2⟩ := hr.is.2 h
          injection e with e
          subst e
          exact hc2 j u hu
      obtain ⟨v', w', h1, h2, h3⟩ := run_append_arg_grows (P := Tryd.prog) (w := w) 30 o.type 5 i0 _ 1 1 Tryd.underlying30 hi0 hz0 hz1 hz2 rfl (by omega) b n n (l.map U8) (by simp [hr.len]) hb ad m c (t.map U8) (by simp [ht.len]) hc (by omega) (by unfold maxLen; omega) (by omega)
      obtain ⟨A', c', e, h4, h5, h6, h7⟩ := hfin v' w' ⟨by rw [List.length_append, hr.len, ht.len, List.map_append]; exact h2⟩
      subst e
      exact ⟨A', c', w', hrun _ _ h1, h4, h5, h6, h3, fun b hb => .inr (h7 b hb)⟩
theorem step_appendR {ops : Array Oper} {o : Oper} {a : Act} {K : Act → World → Prop} {Q : Exit → Act → World → Prop} {E : Prop} (hgd : o.guard = none) (s x : Operand) (ho : o.op = .call { callee := .builtin .append, args := #[s, x], argTypes := #[30, 30] })
    (hs : a.eval s = .slice A n n) (hx : a.eval x = .slice D m c) (hr : ReadsB w B A n l) (hA : A = none → n = 0) (ht : ReadsB w B' D m t) (hlen : n + m ≤ 140737488355328) (hB : B ≤ w.heap.size)
    (h : ∀ A' c' w', ReadsB w' w'.heap.size A' (n + m) (l ++ t) → n + m ≤ c' → (A' = none → n + m = 0) → w.grownBy w' none → (∀ b, A' = some b → (A = some b ∧ m = 0) ∨ w.heap.size ≤ b.block) → K (a.put o.dst (.slice A' (n + m) c')) w') : if Region.wanted o (yielded ops a.tmps) = true then Oper.wp Tryd.prog o a w K Q else E := by
  have hw : Region.wanted o (yielded ops a.tmps) = true := by simp [Region.wanted, hgd]
  rw [if_pos hw]
  obtain ⟨A', c', w', hrun, h1, h2, h3, h4, h5⟩ := run_appendR (ρ := a.eval) ho hs hx hr hA ht hlen hB
  unfold Oper.wp
  rw [hrun]
  exact h A' c' w' h1 h2 h3 h4 h5
theorem wpl_appendR {ops : Array Oper} {rest : List Oper} {o : Oper} {a : Act} {Q : Exit → Act → World → Prop} (hgd : o.guard = none) (s x : Operand) (ho : o.op = .call { callee := .builtin .append, args := #[s, x], argTypes := #[30, 30] })
    (hs : a.eval s = .slice A n n) (hx : a.eval x = .slice D m c) (hr : ReadsB w B A n l) (hA : A = none → n = 0) (ht : ReadsB w B' D m t) (hlen : n + m ≤ 140737488355328) (hB : B ≤ w.heap.size)
    (h : ∀ A' c' w', ReadsB w' w'.heap.size A' (n + m) (l ++ t) → n + m ≤ c' → (A' = none → n + m = 0) → w.grownBy w' none → (∀ b, A' = some b → (A = some b ∧ m = 0) ∨ w.heap.size ≤ b.block) → wpList Tryd.prog ops Q rest (a.put o.dst (.slice A' (n + m) c')) w') : wpList Tryd.prog ops Q (o :: rest) a w := by
  obtain ⟨A', c', w', hrun, h1, h2, h3, h4, h5⟩ := run_appendR (ρ := a.eval) ho hs hx hr hA ht hlen hB
  exact wpList_plain hgd fun K hK => by
    unfold Oper.wp
    rw [hrun]
    exact hK _ _ (h A' c' w' h1 h2 h3 h4 h5)
end
end Go.Proofs.YthigbggacgiamaaDoor

namespace Go.Proofs.YthigbggacgiamaaDoor
open Go.RowKit
theorem Kept.mono {B B' g : Nat} {w w' : World} (h : Kept B g w w') (hB : B' ≤ B) : Kept B' g w w' := ⟨h.os, h.tape, h.output, h.size, fun k hk hg => h.block k (by omega) hg⟩
/-- How many bytes a digest's rest has. -/
def lenAt (g : Nat) (w : World) : Nat := match w.cell? ⟨g, 17, none⟩ with
  | some (.slice _ n _) => n
  | _ => 0
/-- A region's end, said once for all orders. -/
theorem region_partF {P : Program} {c : Code} {Q : Exit → Act → World → Prop} {a : Act} {w : World} {γ : Type} (R : γ → Act → World → Prop) (F : γ) (h1 : c.wp P (fun e a' w' => match e with | .normal => R F a' w' | _ => False) a w) (h2 : ∀ a' w', R F a' w' → Q .normal a' w') : c.wp P Q a w :=
  Code.wp_mono (fun e a w h => by cases e <;> first | exact h2 a w h | exact h.elim) h1
theorem lenAt_is {g n c : Nat} {A : Option Addr} {w : World} (h : w.cell? ⟨g, 17, none⟩ = some (.slice A n c)) : lenAt g w = n := by unfold lenAt; rw [h]
/-- The cells of a digest. -/
def dig (h : Int) (a : List UInt32) (b : List UInt64) (rest : Value) (n : UInt64) : Array Value := #[Value.int .i64 h] ++ arr32 a ++ arr64 b ++ #[rest, .int .u64 ((n64 n : Nat) : Int)]
section
variable {h : Int} {a : List UInt32} {b : List UInt64} {rest rest' : Value} {n n' : UInt64}
theorem dig_pre (ha : a.length = 8) (hb : b.length = 8) : (#[Value.int .i64 h] ++ arr32 a ++ arr64 b).size = 17 := by
  rw [Array.size_append, Array.size_append, arr32_size, arr64_size, ha, hb]; rfl
theorem dig_h : (dig h a b rest n)[0]? = some (.int .i64 h) := by
  unfold dig
  rw [Array.append_assoc, Array.append_assoc, Array.getElem?_append_left (by simp)]
  rfl
theorem dig_rest (ha : a.length = 8) (hb : b.length = 8) : (dig h a b rest n)[17]? = some rest := by
  unfold dig
  rw [Array.getElem?_append_right (by rw [dig_pre ha hb]; omega), dig_pre ha hb]; rfl
theorem dig_n (ha : a.length = 8) (hb : b.length = 8) : (dig h a b rest n)[18]? = some (.int .u64 ((n64 n : Nat) : Int)) := by
  unfold dig
  rw [Array.getElem?_append_right (by rw [dig_pre ha hb]; omega), dig_pre ha hb]; rfl
theorem dig_set_rest (ha : a.length = 8) (hb : b.length = 8) : (dig h a b rest n).setIfInBounds 17 rest' = dig h a b rest' n := by
  unfold dig
  rw [Array.setIfInBounds_append_right (by rw [dig_pre ha hb]; omega), dig_pre ha hb]; rfl
theorem dig_set_n (ha : a.length = 8) (hb : b.length = 8) : (dig h a b rest n).setIfInBounds 18 (.int .u64 ((n64 n' : Nat) : Int)) = dig h a b rest n' := by
  unfold dig
  rw [Array.setIfInBounds_append_right (by rw [dig_pre ha hb]; omega), dig_pre ha hb]; rfl
theorem dig_32 : dig h a b rest n = #[Value.int .i64 h] ++ arr32 a ++ (arr64 b ++ #[rest, .int .u64 ((n64 n : Nat) : Int)]) := by
  unfold dig; rw [Array.append_assoc]
end
theorem blockSize_23 (hh : Int) (h : hh = 2 ∨ hh = 3) (w : World) : Calls Tryd.prog 41 #[.int .i64 hh] w fun e w' => e = .returned (.int .i64 128) ∧ w = w' := by
  rcases h with rfl | rfl
  · exact blockSize_2 w
  · exact blockSize_3 w
theorem field_dig (z i o : Nat) (h : (i, o) = (0, 0) ∨ (i, o) = (1, 1) ∨ (i, o) = (2, 9) ∨ (i, o) = (3, 17) ∨ (i, o) = (4, 18)) (w : World) : (Instr.fieldAt 81 (.pointer (some ⟨z, 0, none⟩)) i).run Tryd.prog w = .ok (.pointer (some ⟨z, o, none⟩)) w := by
  rcases h with h | h | h | h | h <;> (injection h with h1 h2; subst h1; subst h2; kernel_rfl)
theorem run_nilCheck {P : Program} {w : World} {o : Oper} {ρ : Operand → Value} {x : Operand} (ho : o.op = .nilCheck x) {ad : Addr} (hx : ρ x = .pointer (some ad)) : (execOp ρ o).run P w = .ok (.value (.pointer (some ad))) w := by
  unfold execOp
  simp only [ho, hx]
  simp [go_sem]
theorem run_load_sl (ad : Addr) (v : Value) (w : World) (h : w.cell? ad = some v) : (loadVar 30 ad).run Tryd.prog w = .ok v w := by
  simp [loadVar, go_sem, h]
theorem run_slice_toB {P : Program} {w : World} {o : Oper} {ρ : Operand → Value} {t e : TypeId} {x y : Operand} (ho : o.op = .slice t x none (some y) none) (ht : P.underlying t = some (.slice e)) {m : Nat} (hs : (P.info? e).map (·.size) = some m) (D : Option Addr) (k d n : Nat)
    (hx : ρ x = .slice D k d) (hy : ρ y = .int .i64 (n : Int)) (hn : n ≤ d) : (execOp ρ o).run P w = .ok (.value (.slice D n d)) w := by
  have h2 : (n : Int) ≤ (d : Int) := by omega
  have h3 : (0 : Int) ≤ (n : Int) := by omega
  unfold execOp
  simp only [ho, hx, hy]
  simp [go_sem, Instr.sliceAt, Instr.slice, Instr.sliceBounds, Instr.sliceBound, run_underlying ht, run_sizeOf hs, hy, h2, h3, hn, asIntOf, Addr.add_zero']
theorem u8_one3 : (Tryd.prog.info? 5).map (·.size) = some 1 := by kernel_rfl
theorem run_build_ps {P : Program} {o : Oper} {ρ : Operand → Value} {t : TypeId} {parts : List (Nat × Operand)} (ho : o.op = .build t parts.toArray) (ps : List (Nat × Value)) (hp : parts.map (fun p => (p.1, ρ p.2)) = ps) {cells : Array Value} (hb : P.built t ps = some cells) (w : World) :
    (execOp ρ o).run P w = .ok (.value (.agg cells)) w := by
  have e : (parts.toArray.map fun (i, x) => (i, ρ x)).toList = ps := by rw [← hp]; simp
  unfold execOp
  simp only [ho, Sem.run_bind, run_build w t _ cells (e ▸ hb), Result.andThen_ok, Sem.run_pure]
theorem built3_32 : Tryd.prog.built 112 [(0, .int .i64 7), (1, .int .i64 18), (2, .int .i64 3)] = some (three 7 18 3) ∧ Tryd.prog.built 112 [(0, .int .i64 17), (1, .int .i64 19), (2, .int .i64 10)] = some (three 17 19 10) ∧ Tryd.prog.built 112 [(0, .int .i64 2), (1, .int .i64 13), (2, .int .i64 22)] = some (three 2 13 22) ∧ Tryd.prog.built 112 [(0, .int .i64 6), (1, .int .i64 11), (2, .int .i64 25)] = some (three 6 11 25) := ⟨by kernel_rfl, by kernel_rfl, by kernel_rfl, by kernel_rfl⟩
theorem builtKind32 : Tryd.prog.built 114 [(0, .int .i64 32), (1, .agg (three 7 18 3)), (2, .agg (three 17 19 10)), (3, .agg (three 2 13 22)), (4, .agg (three 6 11 25))] = some kind32 := by kernel_rfl
theorem run_sliceTab32 {w : World} {o : Oper} {ρ : Operand → Value} {x : Operand} (ho : o.op = .slice 111 x none none none) (hx : ρ x = .pointer (some ⟨0, 0, none⟩)) : (execOp ρ o).run Tryd.prog w = .ok (.value (.slice (some ⟨0, 0, none⟩) 64 64)) w := by
  have hs : (Tryd.prog.info? 32).map (·.size) = some 1 := by kernel_rfl
  unfold execOp
  simp only [ho, hx]
  simp [go_sem, Instr.sliceAt, Instr.slice, Instr.sliceBounds, Instr.sliceBound, run_underlying Tryd.underlying111, run_sizeOf hs, asIntOf, Addr.add_zero']
theorem enter_words32 (args : Array Value) (w : World) : (callFunc 55 args).run Tryd.prog w = .ok (.enter 55 args) w := by kernel_rfl
theorem enter_blocked32 (args : Array Value) (w : World) : (callFunc 54 args).run Tryd.prog w = .ok (.enter 54 args) w := by kernel_rfl
/-- What Write's loop keeps: the digest's cells, the bytes at hand, the table. -/
structure WrS32 (w : World) (g : Nat) (cs : Array Value) (A : Option Addr) (r : Nat) (l : List UInt8) (W : World) : Prop where
  dg : Blk W g 81 cs
  rd : ReadsB W W.heap.size A r l
  tb : Blk W 0 111 (arr32 Sha32.K)
  kept : Kept w.heap.size g w W
section
variable {w : World} {g : Nat} {cs : Array Value} {A : Option Addr} {r : Nat} {l : List UInt8} {W w' : World}
theorem WrS32.next (h : WrS32 w g cs A r l W) (hb : Below W.heap.size W w') : WrS32 w g cs A r l w' :=
  ⟨h.dg.below hb h.dg.lt, ⟨h.rd.len, (h.rd.is.below hb).more hb.size⟩, h.tb.below hb h.tb.lt, h.kept.trans (below_kept hb h.kept.size)⟩
end
/-- .. whatever the state is. -/
def WrT32 (w : World) (g : Nat) (z0 : List UInt64) (rest : Value) (N : UInt64) (A : Option Addr) (r : Nat) (l : List UInt8) (W : World) : Prop := ∃ st : List UInt32, st.length = 8 ∧ WrS32 w g (dig 1 (st) z0 rest N) A r l W
theorem reads_kept32 {w w' : World} {B g n : Nat} {A : Option Addr} {l : List UInt8} (h : ReadsB w B A n l) (hk : Kept B g w w') (hne : ∀ ad, A = some ad → ad.block ≠ g) : ReadsB w' B A n l :=
  ⟨h.len, h.is.1, fun hn => by
    obtain ⟨ad, e, hb, hc⟩ := h.is.2 hn
    exact ⟨ad, e, hb, fun j u hu => by rw [← hc j u hu]; exact World.cell?_of_block (hk.block _ (by rw [block_of_add]; exact hb) (by rw [block_of_add]; exact hne ad e))⟩⟩
theorem reads_kept032 {w w' : World} {B g n : Nat} {A : Option Addr} {l : List UInt8} (h : ReadsB w B A n l) (hk : Kept B g w w') (hne : 0 < n → ∀ ad, A = some ad → ad.block ≠ g) : ReadsB w' B A n l := by
  rcases Nat.eq_zero_or_pos n with h0 | h0
  · exact ⟨h.len, h.is.1, fun hn => absurd hn (by omega)⟩
  · exact reads_kept32 h hk (hne h0)
theorem wrNext32 {w w6 : World} {g : Nat} {Zp : Nat → Prop} {st : List UInt32} {z0 : List UInt64} {N : UInt64} {A' : Option Addr} {r' c' : Nat} {l : List UInt8} (hst : st.length = 8) (hz : z0.length = 8) (hS : WrS32 w g (dig 1 (st) z0 (.slice A' r' c') N) A' r' l w6) (hge : 64 ≤ r') (hrc : r' ≤ c') (hne : ∀ ad, A' = some ad → ad.block ≠ g ∧ Zp ad.block) (hgk : 0 ≠ g) (A2 : Option Addr) (hA2 : A2 = if c' = 64 then A' else A'.map (·.add 64)) :
    WrS32 w g (dig 1 (st) z0 (.slice A2 (r' - 64) (c' - 64)) N) A2 (r' - 64) (l.drop 64) (w6.setCell ⟨g, 17, none⟩ (.slice A2 (r' - 64) (c' - 64))) ∧ (A2 = none → A' = none) ∧ (∀ ad, A2 = some ad → ad.block ≠ g ∧ Zp ad.block) := by
  have hne2 : ∀ ad, A2 = some ad → ad.block ≠ g ∧ Zp ad.block := fun ad e => by
    rw [hA2] at e
    split at e
    · exact hne ad e
    · cases A' with
      | none => cases e
      | some b =>
        injection e with e
        subst e
        rw [block_of_add]; exact hne b rfl
  have hnone : A2 = none → A' = none := fun e => by
    rw [hA2] at e
    split at e
    · exact e
    · cases A' with
      | none => rfl
      | some b => cases e
  have hK : Kept w6.heap.size g w6 (w6.setCell ⟨g, 17, none⟩ (.slice A2 (r' - 64) (c' - 64))) := grown_kept (grew_setCell (World.grownBy.refl w6 (some g)) 17 _) (fun k hk => .inr (by injection hk with hk; exact hk.symm)) (Nat.le_refl _)
  have hdg := hS.dg.set_ 17 (.slice A2 (r' - 64) (c' - 64))
  rw [dig_set_rest hst hz] at hdg
  have hR := hS.rd.drop (k := 64) hge hrc
  rw [← hA2] at hR
  have hh := reads_kept32 hR hK (fun ad e => (hne2 ad e).1)
  exact ⟨⟨hdg, ⟨hh.len, hh.is.more hK.size⟩, hS.tb.kept hK hS.tb.lt hgk, hS.kept.trans (hK.mono hS.kept.size)⟩, hnone, hne2⟩
set_option maxHeartbeats 8000000 in
set_option maxRecDepth 100000 in
theorem write32_any (g : Nat) (Zp : Nat → Prop) (s : List UInt32) (z0 : List UInt64) (hs : s.length = 8) (hz : z0.length = 8) (N : UInt64) (A : Option Addr) (r c : Nat) (l : List UInt8) (D : Option Addr) (n d : Nat) (t : List UInt8) (w : World) (hdg : Blk w g 81 (dig 1 s z0 (.slice A r c) N)) (hrd : ReadsB w w.heap.size A r l) (hrc : r ≤ c) (hA : A = none → r = 0) (hneA : 0 < r → ∀ ad, A = some ad → ad.block ≠ g ∧ Zp ad.block) (hZ : ∀ b, w.heap.size ≤ b → Zp b)
    (htb : Blk w 0 111 (arr32 Sha32.K)) (ht : ReadsB w w.heap.size D n t) (hneD : 0 < n → ∀ ad, D = some ad → ad.block ≠ g) (hlen : r + n ≤ 140737488355328) :
    Calls Tryd.prog 43 #[.pointer (some ⟨g, 0, none⟩), .slice D n d] w fun e w' => e = .returned (.tuple #[]) ∧ w.grownBy w' (some g) ∧ ∃ A' r' c', Blk w' g 81 (dig 1 (Sha32.feed ((r + n) / 64) (l ++ t) s) z0 (.slice A' r' c') (N + UInt64.ofNat n)) ∧ ReadsB w' w'.heap.size A' r' ((l ++ t).drop (64 * ((r + n) / 64))) ∧ r' ≤ c' ∧ (A' = none → r' = 0) ∧ (0 < r' → ∀ ad, A' = some ad → ad.block ≠ g ∧ Zp ad.block) ∧ r' = (r + n) % 64 := by
  have Hs := hd hs
  have Hz := hd hz
  clear hs hz
  
  have hglt := hdg.lt
  have hgk : 0 ≠ g := htb.ne_ hdg (by decide)
  have w1 : IntKind.u64.wrap (n : Int) = ((n64 (UInt64.ofNat n) : Nat) : Int) := by rw [wrap_n64, BitVec.ofInt_natCast]; rfl
  obtain ⟨N2, HN2⟩ : ∃ x, Hd (N + UInt64.ofNat n = x) := ⟨_, ⟨rfl⟩⟩
  have c0 : w.cell? ⟨g, 0, none⟩ = some (.int .i64 1) := (hdg.cell 0).trans dig_h
  have c18 : w.cell? ⟨g, 18, none⟩ = some (.int .u64 ((n64 N : Nat) : Int)) := (hdg.cell 18).trans (dig_n Hs.out Hz.out)
  have f18 := hdg.frozen 18
  have hdg1 := hdg.set_ 18 (.int .u64 ((n64 (N + UInt64.ofNat n) : Nat) : Int))
  rw [dig_set_n Hs.out Hz.out] at hdg1
  have hK1 : Kept w.heap.size g w (w.setCell ⟨g, 18, none⟩ (.int .u64 ((n64 (N + UInt64.ofNat n) : Nat) : Int))) := grown_kept (grew_setCell (World.grownBy.refl w (some g)) 18 _) (fun k hk => .inr (by injection hk with hk; exact hk.symm)) (Nat.le_refl _)
  have c0' : (w.setCell ⟨g, 18, none⟩ (.int .u64 ((n64 (N + UInt64.ofNat n) : Nat) : Int))).cell? ⟨g, 0, none⟩ = some (.int .i64 1) := (hdg1.cell 0).trans dig_h
  go_enter Tryd.func43, Tryd.ntmps43
  go_wp2_with (go_at_call 41; refine (blockSize_1 _).mono ?_; rintro e w3 ⟨rfl, rfl⟩)
  refine wp_name (fun wo => Blk wo g 81 (dig 1 s z0 (.slice A r c) N2) ∧ Kept w.heap.size g w wo) ⟨by rw [← HN2.out]; exact hdg1, hK1⟩ ?_
  clear c0 c18 f18 hdg1 hK1 c0' w1
  rintro w1 ⟨hdg1, hK1⟩
  have c17 : w1.drew.cell? ⟨g, 17, none⟩ = some (.slice A r c) := (hdg1.drew.cell 17).trans (dig_rest Hs.out Hz.out)
  have v1 : (r : Int) ≤ (c : Int) := by omega
  have f17 := hdg1.drew.frozen 17
  have hr1 : ReadsB w1.drew w.heap.size A r l := (reads_kept032 hrd hK1 (fun h0 ad e => (hneA h0 ad e).1)).drew
  have ht1 : ReadsB w1.drew w.heap.size D n t := (reads_kept032 ht hK1 hneD).drew
  have hBs : w.heap.size ≤ w1.drew.heap.size := hK1.size
  apply region_partF (R := fun (F : Option Addr → Nat → Act) a' w' => ∃ A2 c2 w2, ReadsB w2 w2.heap.size A2 (r + n) (l ++ t) ∧ r + n ≤ c2 ∧ (A2 = none → r + n = 0) ∧ w1.drew.grownBy w2 none ∧ (∀ b, A2 = some b → (A = some b ∧ n = 0) ∨ w1.drew.heap.size ≤ b.block) ∧ a' = F A2 c2 ∧ w' = w2.setCell ⟨g, 17, none⟩ (.slice A2 (r + n) c2))
  · go_region_law (first | (refine step_appendR (by rfl) _ _ (by rfl) (by rfl) (by rfl) hr1 hA ht1 hlen hBs ?_; intro A2 c2 w2 hr2 hc2 hA2 gr2 hn2; have hdg2 := hdg1.drew.grown gr2 (by simp); have f17b := hdg2.frozen 17; have c17b := (hdg2.cell 17).trans (dig_rest Hs.out Hz.out)))
    all_goals exact ⟨A2, c2, w2, hr2, hc2, hA2, gr2, hn2, rfl, rfl⟩
  · rintro a2 w2' ⟨A2, c2, w2, hr2, hc2, hA2, gr2, hn2, rfl, rfl⟩
    have hdg2 := hdg1.drew.grown gr2 (by simp)
    clear c17 f17 hr1 ht1
    have hneA2 : 0 < r + n → ∀ ad, A2 = some ad → ad.block ≠ g ∧ Zp ad.block := fun h0 ad e => by
      rcases hn2 ad e with h | h
      · exact hneA (by omega) ad h.1
      · have hfr : w.heap.size ≤ ad.block := Nat.le_trans hBs h
        exact ⟨by omega, hZ _ hfr⟩
    have hdg3 := hdg2.set_ 17 (.slice A2 (r + n) c2)
    rw [dig_set_rest Hs.out Hz.out] at hdg3
    have hK2 : Kept w2.heap.size g w2 (w2.setCell ⟨g, 17, none⟩ (.slice A2 (r + n) c2)) := grown_kept (grew_setCell (World.grownBy.refl w2 (some g)) 17 _) (fun k hk => .inr (by injection hk with hk; exact hk.symm)) (Nat.le_refl _)
    have hw12 : Kept w.heap.size g w w2 := (hK1.trans (below_kept (Below.refl w.heap.size w1).drew (Nat.le_refl _))).trans (grown_kept gr2 (fun k hk => by cases hk) hBs)
    have hS0 : WrS32 w g (dig 1 s z0 (.slice A2 (r + n) c2) N2) A2 (r + n) (l ++ t) (w2.setCell ⟨g, 17, none⟩ (.slice A2 (r + n) c2)) := by
      have hh := reads_kept032 hr2 hK2 (fun h0 ad e => (hneA2 h0 ad e).1)
      have hK3 : Kept w.heap.size g w2 (w2.setCell ⟨g, 17, none⟩ (.slice A2 (r + n) c2)) := ⟨hK2.os, hK2.tape, hK2.output, hK2.size, fun k hk hg => hK2.block k (by have := hw12.size; omega) hg⟩
      have hK4 := hw12.trans hK3
      exact ⟨hdg3, ⟨hh.len, hh.is.more hK2.size⟩, htb.kept hK4 htb.lt hgk, hK4⟩
    clear hK2 hdg2 hdg3 hr2 hw12 gr2 hdg1 hK1 hBs hn2
    have hlen2 := (hS0.rd).len
    go_wp2
    go_loopw [] (fun wr => ∃ (j : Nat) (A' : Option Addr) (r' c' : Nat), 64 * j ≤ r + n ∧ WrS32 w g (dig 1 (Sha32.feed j (l ++ t) s) z0 (.slice A' r' c') N2) A' r' ((l ++ t).drop (64 * j)) wr ∧ r' ≤ c' ∧ (A' = none → r' = 0) ∧ (0 < r' → ∀ ad, A' = some ad → ad.block ≠ g ∧ Zp ad.block) ∧ r' = (r + n) - 64 * j) (fun wr => lenAt g wr)
    case atStart => exact ⟨0, A2, r + n, c2, by omega, by rw [Nat.mul_zero, List.drop_zero]; exact hS0, hc2, hA2, hneA2, by omega⟩
    case round =>
      clear hS0
      obtain ⟨j, A', r', c', hj, hS, hrc', hA', hne', hr'⟩ := hrel
      obtain ⟨st, Hst⟩ : ∃ y, Hd (Sha32.feed j (l ++ t) s = y) := ⟨_, ⟨rfl⟩⟩
      rw [Hst.out] at hS
      have Hstl := hd (show st.length = 8 by rw [← Hst.out, Sha32.feed_len, Hs.out])
      have Hr := hd hr'
      clear hr'
      have c17 : wr.cell? ⟨g, 17, none⟩ = some (.slice A' r' c') := (hS.dg.cell 17).trans (dig_rest Hstl.out Hz.out)
      have c0 : wr.cell? ⟨g, 0, none⟩ = some (.int .i64 1) := (hS.dg.cell 0).trans dig_h
      have Hm := hd (lenAt_is c17)
      by_cases hge : 64 ≤ r'
      · have tk : (64 : Int) ≤ (r' : Int) := by omega
        go_wp2
        obtain ⟨x, Hx⟩ : ∃ y, Hd (((l ++ t).drop (64 * j)).take 64 = y) := ⟨_, ⟨rfl⟩⟩
        have Hnx := hd (show Sha32.feed (j + 1) (l ++ t) s = Sha32.block st (Sha32.words x) by rw [Sha32.feed_snoc, Hst.out, Hx.out])
        have hT0 : WrT32 w g z0 (.slice A' r' c') N2 A' r' ((l ++ t).drop (64 * j)) wr := ⟨st, Hstl.out, hS⟩
        have hSd := hS.next (Below.refl wr.heap.size wr).drew
        refine wp_region_held_drew (S := WrT32 w g z0 (.slice A' r' c') N2 A' r' ((l ++ t).drop (64 * j))) (by kernel_rfl) ⟨st, Hstl.out, hSd⟩ ?_
        intro hT1
        clear hT0 hS c17 c0
        refine held_take 0 (o := _) rfl (by kernel_rfl) (by kernel_rfl) (by kernel_rfl) rfl (.pointer (some ⟨g, 0, none⟩)) (fun _ _ _ h => h) (fun W hW => run_move (by rfl) (by simp [Act.eval]) W) (by assumption) ?_
        simp only [Act.put, List.getElem_toArray, List.getElem_cons_succ, List.getElem_cons_zero, List.setIfInBounds_toArray, List.set_cons_zero, List.set_cons_succ]
        refine held_take 1 (o := _) rfl (by kernel_rfl) (by kernel_rfl) (by kernel_rfl) rfl (.pointer (some ⟨g, 0, none⟩)) (fun _ _ _ h => h) (fun W hW => run_nilCheck (by rfl) (by simp [Act.eval])) (by assumption) ?_
        simp only [Act.put, List.getElem_toArray, List.getElem_cons_succ, List.getElem_cons_zero, List.setIfInBounds_toArray, List.set_cons_zero, List.set_cons_succ]
        refine held_take 2 (o := _) rfl (by kernel_rfl) (by kernel_rfl) (by kernel_rfl) rfl (.pointer (some ⟨g, 1, none⟩)) (fun _ _ _ h => h) (fun W hW => run_fieldAddr (by rfl) (by simp [Act.eval]) (field_dig g 1 1 (by simp))) (by assumption) ?_
        simp only [Act.put, List.getElem_toArray, List.getElem_cons_succ, List.getElem_cons_zero, List.setIfInBounds_toArray, List.set_cons_zero, List.set_cons_succ]
        refine held_take 3 (o := _) rfl (by kernel_rfl) (by kernel_rfl) (by kernel_rfl) rfl (.pointer (some ⟨g, 0, none⟩)) (fun _ _ _ h => h) (fun W hW => run_move (by rfl) (by simp [Act.eval]) W) (by assumption) ?_
        simp only [Act.put, List.getElem_toArray, List.getElem_cons_succ, List.getElem_cons_zero, List.setIfInBounds_toArray, List.set_cons_zero, List.set_cons_succ]
        refine held_take 4 (o := _) rfl (by kernel_rfl) (by kernel_rfl) (by kernel_rfl) rfl (.pointer (some ⟨g, 0, none⟩)) (fun _ _ _ h => h) (fun W hW => run_nilCheck (by rfl) (by simp [Act.eval])) (by assumption) ?_
        simp only [Act.put, List.getElem_toArray, List.getElem_cons_succ, List.getElem_cons_zero, List.setIfInBounds_toArray, List.set_cons_zero, List.set_cons_succ]
        refine held_take 5 (o := _) rfl (by kernel_rfl) (by kernel_rfl) (by kernel_rfl) rfl (.pointer (some ⟨g, 17, none⟩)) (fun _ _ _ h => h) (fun W hW => run_fieldAddr (by rfl) (by simp [Act.eval]) (field_dig g 3 17 (by simp))) (by assumption) ?_
        simp only [Act.put, List.getElem_toArray, List.getElem_cons_succ, List.getElem_cons_zero, List.setIfInBounds_toArray, List.set_cons_zero, List.set_cons_succ]
        refine held_take 6 (o := _) rfl (by kernel_rfl) (by kernel_rfl) (by kernel_rfl) rfl (.slice A' r' c') (fun _ _ _ h => h) (fun W hW => run_execOp_load (by rfl) (by simp [Act.eval]) (run_load_sl ⟨g, 17, none⟩ _ W (by obtain ⟨st', hl', hW'⟩ := hW; exact (hW'.dg.cell 17).trans (dig_rest hl' Hz.out)))) (by assumption) ?_
        simp only [Act.put, List.getElem_toArray, List.getElem_cons_succ, List.getElem_cons_zero, List.setIfInBounds_toArray, List.set_cons_zero, List.set_cons_succ]
        refine held_take 7 (o := _) rfl (by kernel_rfl) (by kernel_rfl) (by kernel_rfl) rfl (.slice A' 64 c') (fun _ _ _ h => h) (fun W hW => run_slice_toB (by rfl) Tryd.underlying30 u8_one3 A' r' c' 64 (by simp [Act.eval]) (by simp [Act.eval]) (by omega)) (by assumption) ?_
        simp only [Act.put, List.getElem_toArray, List.getElem_cons_succ, List.getElem_cons_zero, List.setIfInBounds_toArray, List.set_cons_zero, List.set_cons_succ]
        refine held_take 9 (o := _) rfl (by kernel_rfl) (by kernel_rfl) (by kernel_rfl) rfl (.slice (some ⟨0, 0, none⟩) 64 64) (fun _ _ _ h => h) (fun W hW => run_sliceTab32 (by rfl) (by rfl)) (by assumption) ?_
        simp only [Act.put, List.getElem_toArray, List.getElem_cons_succ, List.getElem_cons_zero, List.setIfInBounds_toArray, List.set_cons_zero, List.set_cons_succ]
        refine held_take 10 (o := _) rfl (by kernel_rfl) (by kernel_rfl) (by kernel_rfl) rfl (.agg (three 7 18 3)) (fun _ _ _ h => h) (fun W hW => run_build_ps (parts := [(0, .const (.int .i64 7)), (1, .const (.int .i64 18)), (2, .const (.int .i64 3))]) (by rfl) [(0, .int .i64 7), (1, .int .i64 18), (2, .int .i64 3)] (by rfl) built3_32.1 W) (by assumption) ?_
        simp only [Act.put, List.getElem_toArray, List.getElem_cons_succ, List.getElem_cons_zero, List.setIfInBounds_toArray, List.set_cons_zero, List.set_cons_succ]
        refine held_take 11 (o := _) rfl (by kernel_rfl) (by kernel_rfl) (by kernel_rfl) rfl (.agg (three 17 19 10)) (fun _ _ _ h => h) (fun W hW => run_build_ps (parts := [(0, .const (.int .i64 17)), (1, .const (.int .i64 19)), (2, .const (.int .i64 10))]) (by rfl) [(0, .int .i64 17), (1, .int .i64 19), (2, .int .i64 10)] (by rfl) built3_32.2.1 W) (by assumption) ?_
        simp only [Act.put, List.getElem_toArray, List.getElem_cons_succ, List.getElem_cons_zero, List.setIfInBounds_toArray, List.set_cons_zero, List.set_cons_succ]
        refine held_take 12 (o := _) rfl (by kernel_rfl) (by kernel_rfl) (by kernel_rfl) rfl (.agg (three 2 13 22)) (fun _ _ _ h => h) (fun W hW => run_build_ps (parts := [(0, .const (.int .i64 2)), (1, .const (.int .i64 13)), (2, .const (.int .i64 22))]) (by rfl) [(0, .int .i64 2), (1, .int .i64 13), (2, .int .i64 22)] (by rfl) built3_32.2.2.1 W) (by assumption) ?_
        simp only [Act.put, List.getElem_toArray, List.getElem_cons_succ, List.getElem_cons_zero, List.setIfInBounds_toArray, List.set_cons_zero, List.set_cons_succ]
        refine held_take 13 (o := _) rfl (by kernel_rfl) (by kernel_rfl) (by kernel_rfl) rfl (.agg (three 6 11 25)) (fun _ _ _ h => h) (fun W hW => run_build_ps (parts := [(0, .const (.int .i64 6)), (1, .const (.int .i64 11)), (2, .const (.int .i64 25))]) (by rfl) [(0, .int .i64 6), (1, .int .i64 11), (2, .int .i64 25)] (by rfl) built3_32.2.2.2 W) (by assumption) ?_
        simp only [Act.put, List.getElem_toArray, List.getElem_cons_succ, List.getElem_cons_zero, List.setIfInBounds_toArray, List.set_cons_zero, List.set_cons_succ]
        refine held_take 14 (o := _) rfl (by kernel_rfl) (by kernel_rfl) (by kernel_rfl) rfl (.agg kind32) (fun _ _ _ h => h) (fun W hW => run_build_ps (parts := [(0, .const (.int .i64 32)), (1, .tmp 71), (2, .tmp 72), (3, .tmp 73), (4, .tmp 74)]) (by rfl) [(0, .int .i64 32), (1, .agg (three 7 18 3)), (2, .agg (three 17 19 10)), (3, .agg (three 2 13 22)), (4, .agg (three 6 11 25))] (by simp [Act.eval]) builtKind32 W) (by assumption) ?_
        simp only [Act.put, List.getElem_toArray, List.getElem_cons_succ, List.getElem_cons_zero, List.setIfInBounds_toArray, List.set_cons_zero, List.set_cons_succ]
        refine held_callG 8 (by kernel_rfl) (o := _) rfl (by simp [Region.wanted, yielded]) 55 _ _ rfl #[.slice A' 64 c', .int .i64 4, .int .i64 64] (by simp [Act.eval]) (enter_words32 _) ?_
        refine (words32_any A' c' x wr.drew (by rw [← Hx.out]; exact hSd.rd.take (by omega)) (by omega)).mono ?_
        rintro e w5 ⟨v5, rfl, own5, hB5⟩
        have hS5 := hSd.next hB5
        refine ⟨_, rfl, ⟨st, Hstl.out, hS5⟩, ?_⟩
        intro _
        simp only [Act.put, List.getElem_toArray, List.getElem_cons_succ, List.getElem_cons_zero, List.setIfInBounds_toArray, List.set_cons_zero, List.set_cons_succ]
        refine held_callG 15 (by kernel_rfl) (o := _) rfl (by simp [Region.wanted, yielded]) 54 _ _ rfl #[.pointer (some ⟨g, 1, none⟩), v5, .slice (some ⟨0, 0, none⟩) 64 64, .agg kind32] (by simp [Act.eval]) (enter_blocked32 _) ?_
        have hgw : g < wr.drew.heap.size := hSd.dg.lt
        refine (blocked32_any g 0 #[.int .i64 1] (arr64 z0 ++ #[.slice A' r' c', .int .u64 ((n64 N2 : Nat) : Int)]) st rfl Hstl.out wr.drew.heap.size v5 (Sha32.words x) w5 (by rw [← dig_32]; exact hS5.dg) hS5.tb hgw hSd.tb.lt hB5.size own5 (Sha32.wordsTo_len _ 16)).mono ?_
        rintro e w6 ⟨rfl, hdg6, hK6⟩
        rw [← dig_32] at hdg6
        have hK7 : Kept wr.drew.heap.size g wr.drew w6 := (below_kept hB5 (Nat.le_refl _)).trans hK6
        have hS6 : WrS32 w g (dig 1 (Sha32.block st (Sha32.words x)) z0 (.slice A' r' c') N2) A' r' ((l ++ t).drop (64 * j)) w6 := by
          have hh := reads_kept32 hSd.rd hK7 (fun ad e => (hne' (by omega) ad e).1)
          exact ⟨hdg6, ⟨hh.len, hh.is.more hK7.size⟩, hSd.tb.kept hK7 hSd.tb.lt hgk, hSd.kept.trans (hK7.mono hSd.kept.size)⟩
        refine ⟨_, rfl, ⟨_, by rw [Sha32.block_len, Hstl.out], hS6⟩, ?_⟩
        intro _
        simp only [Act.put, List.getElem_toArray, List.getElem_cons_succ, List.getElem_cons_zero, List.setIfInBounds_toArray, List.set_cons_zero, List.set_cons_succ]
        refine wpAnyH_done (by kernel_rfl) ?_ _
        clear hSd hS5 hB5 own5 hdg6 hK6 hK7
        rw [← Hnx.out] at hS6
        have Hbl := hd (show (Sha32.block st (Sha32.words x)).length = 8 by rw [Sha32.block_len, Hstl.out])
        have Hfl := hd (show (Sha32.feed (j + 1) (l ++ t) s).length = 8 by rw [Sha32.feed_len, Hs.out])
        have c17 : w6.cell? ⟨g, 17, none⟩ = some (.slice A' r' c') := (hS6.dg.cell 17).trans (dig_rest Hfl.out Hz.out)
        have f17 := hS6.dg.frozen 17
        have v3 : (64 : Int) ≤ (c' : Int) := by omega
        by_cases hcm : c' = 64
        · obtain ⟨hS7, hnone, hne7⟩ := wrNext32 Hfl.out Hz.out hS6 hge hrc' (hne' (by omega)) hgk A' (by rw [if_pos hcm])
          have Hm7 := hd (lenAt_is ((hS7.dg.cell 17).trans (dig_rest Hfl.out Hz.out)))
          subst hcm
          obtain rfl : r' = 64 := by omega
          have Hm8 := Hm7.out
          clear Hm7
          simp only [Nat.sub_self] at hS7 Hm8
          have Hm7 := hd Hm8
          clear Hm8
          go_wp2
          go_roundw
          case rel => exact ⟨j + 1, A', 0, 0, by have := Hr.out; omega, by rw [List.drop_drop, show 64 * j + 64 = 64 * (j + 1) by omega] at hS7; exact hS7, by omega, fun _ => rfl, fun _ => hne7, by have := Hr.out; omega⟩
          case measure =>
            rw [Hm7.out, Hm.out]; omega
        · obtain ⟨hS7, hnone, hne7⟩ := wrNext32 Hfl.out Hz.out hS6 hge hrc' (hne' (by omega)) hgk (A'.map (fun x => ⟨x.block, x.off + 64, none⟩)) (by rw [if_neg hcm]; rfl)
          have Hm7 := hd (lenAt_is ((hS7.dg.cell 17).trans (dig_rest Hfl.out Hz.out)))
          go_wp2
          go_roundw
          case rel => exact ⟨j + 1, _, r' - 64, c' - 64, by have := Hr.out; omega, by rw [List.drop_drop, show 64 * j + 64 = 64 * (j + 1) by omega] at hS7; exact hS7, by omega, fun e => by have := hA' (hnone e); omega, fun _ => hne7, by have := Hr.out; omega⟩
          case measure =>
            rw [Hm7.out, Hm.out]; omega
      · have tk : ¬ (64 : Int) ≤ (r' : Int) := by omega
        have ej : j = (r + n) / 64 := by have := Hr.out; omega
        subst ej
        go_wp2
        go_end0
        exact ⟨rfl, hS.kept.grown, A', r', c', by rw [HN2.out, Hst.out]; exact hS.dg, hS.rd, hrc', hA', hne', by have := Hr.out; omega⟩

theorem built3_64 : Tryd.prog.built 112 [(0, .int .i64 1), (1, .int .i64 8), (2, .int .i64 7)] = some (three 1 8 7) ∧ Tryd.prog.built 112 [(0, .int .i64 19), (1, .int .i64 61), (2, .int .i64 6)] = some (three 19 61 6) ∧ Tryd.prog.built 112 [(0, .int .i64 28), (1, .int .i64 34), (2, .int .i64 39)] = some (three 28 34 39) ∧ Tryd.prog.built 112 [(0, .int .i64 14), (1, .int .i64 18), (2, .int .i64 41)] = some (three 14 18 41) := ⟨by kernel_rfl, by kernel_rfl, by kernel_rfl, by kernel_rfl⟩
theorem builtKind64 : Tryd.prog.built 114 [(0, .int .i64 64), (1, .agg (three 1 8 7)), (2, .agg (three 19 61 6)), (3, .agg (three 28 34 39)), (4, .agg (three 14 18 41))] = some kind64 := by kernel_rfl
theorem run_sliceTab64 {w : World} {o : Oper} {ρ : Operand → Value} {x : Operand} (ho : o.op = .slice 119 x none none none) (hx : ρ x = .pointer (some ⟨1, 0, none⟩)) : (execOp ρ o).run Tryd.prog w = .ok (.value (.slice (some ⟨1, 0, none⟩) 80 80)) w := by
  have hs : (Tryd.prog.info? 31).map (·.size) = some 1 := by kernel_rfl
  unfold execOp
  simp only [ho, hx]
  simp [go_sem, Instr.sliceAt, Instr.slice, Instr.sliceBounds, Instr.sliceBound, run_underlying Tryd.underlying119, run_sizeOf hs, asIntOf, Addr.add_zero']
theorem enter_words64 (args : Array Value) (w : World) : (callFunc 57 args).run Tryd.prog w = .ok (.enter 57 args) w := by kernel_rfl
theorem enter_blocked64 (args : Array Value) (w : World) : (callFunc 56 args).run Tryd.prog w = .ok (.enter 56 args) w := by kernel_rfl
/-- What Write's loop keeps: the digest's cells, the bytes at hand, the table. -/
structure WrS64 (w : World) (g : Nat) (cs : Array Value) (A : Option Addr) (r : Nat) (l : List UInt8) (W : World) : Prop where
  dg : Blk W g 81 cs
  rd : ReadsB W W.heap.size A r l
  tb : Blk W 1 119 (arr64 Sha64.K)
  kept : Kept w.heap.size g w W
section
variable {w : World} {g : Nat} {cs : Array Value} {A : Option Addr} {r : Nat} {l : List UInt8} {W w' : World}
theorem WrS64.next (h : WrS64 w g cs A r l W) (hb : Below W.heap.size W w') : WrS64 w g cs A r l w' :=
  ⟨h.dg.below hb h.dg.lt, ⟨h.rd.len, (h.rd.is.below hb).more hb.size⟩, h.tb.below hb h.tb.lt, h.kept.trans (below_kept hb h.kept.size)⟩
end
/-- .. whatever the state is. -/
def WrT64 (hh : Int) (w : World) (g : Nat) (z0 : List UInt32) (rest : Value) (N : UInt64) (A : Option Addr) (r : Nat) (l : List UInt8) (W : World) : Prop := ∃ st : List UInt64, st.length = 8 ∧ WrS64 w g (dig hh z0 (st) rest N) A r l W
theorem reads_kept64 {w w' : World} {B g n : Nat} {A : Option Addr} {l : List UInt8} (h : ReadsB w B A n l) (hk : Kept B g w w') (hne : ∀ ad, A = some ad → ad.block ≠ g) : ReadsB w' B A n l :=
  ⟨h.len, h.is.1, fun hn => by
    obtain ⟨ad, e, hb, hc⟩ := h.is.2 hn
    exact ⟨ad, e, hb, fun j u hu => by rw [← hc j u hu]; exact World.cell?_of_block (hk.block _ (by rw [block_of_add]; exact hb) (by rw [block_of_add]; exact hne ad e))⟩⟩
theorem reads_kept064 {w w' : World} {B g n : Nat} {A : Option Addr} {l : List UInt8} (h : ReadsB w B A n l) (hk : Kept B g w w') (hne : 0 < n → ∀ ad, A = some ad → ad.block ≠ g) : ReadsB w' B A n l := by
  rcases Nat.eq_zero_or_pos n with h0 | h0
  · exact ⟨h.len, h.is.1, fun hn => absurd hn (by omega)⟩
  · exact reads_kept64 h hk (hne h0)
theorem wrNext64 (hh : Int) {w w6 : World} {g : Nat} {Zp : Nat → Prop} {st : List UInt64} {z0 : List UInt32} {N : UInt64} {A' : Option Addr} {r' c' : Nat} {l : List UInt8} (hst : st.length = 8) (hz : z0.length = 8) (hS : WrS64 w g (dig hh z0 (st) (.slice A' r' c') N) A' r' l w6) (hge : 128 ≤ r') (hrc : r' ≤ c') (hne : ∀ ad, A' = some ad → ad.block ≠ g ∧ Zp ad.block) (hgk : 1 ≠ g) (A2 : Option Addr) (hA2 : A2 = if c' = 128 then A' else A'.map (·.add 128)) :
    WrS64 w g (dig hh z0 (st) (.slice A2 (r' - 128) (c' - 128)) N) A2 (r' - 128) (l.drop 128) (w6.setCell ⟨g, 17, none⟩ (.slice A2 (r' - 128) (c' - 128))) ∧ (A2 = none → A' = none) ∧ (∀ ad, A2 = some ad → ad.block ≠ g ∧ Zp ad.block) := by
  have hne2 : ∀ ad, A2 = some ad → ad.block ≠ g ∧ Zp ad.block := fun ad e => by
    rw [hA2] at e
    split at e
    · exact hne ad e
    · cases A' with
      | none => cases e
      | some b =>
        injection e with e
        subst e
        rw [block_of_add]; exact hne b rfl
  have hnone : A2 = none → A' = none := fun e => by
    rw [hA2] at e
    split at e
    · exact e
    · cases A' with
      | none => rfl
      | some b => cases e
  have hK : Kept w6.heap.size g w6 (w6.setCell ⟨g, 17, none⟩ (.slice A2 (r' - 128) (c' - 128))) := grown_kept (grew_setCell (World.grownBy.refl w6 (some g)) 17 _) (fun k hk => .inr (by injection hk with hk; exact hk.symm)) (Nat.le_refl _)
  have hdg := hS.dg.set_ 17 (.slice A2 (r' - 128) (c' - 128))
  rw [dig_set_rest hz hst] at hdg
  have hR := hS.rd.drop (k := 128) hge hrc
  rw [← hA2] at hR
  have hh := reads_kept64 hR hK (fun ad e => (hne2 ad e).1)
  exact ⟨⟨hdg, ⟨hh.len, hh.is.more hK.size⟩, hS.tb.kept hK hS.tb.lt hgk, hS.kept.trans (hK.mono hS.kept.size)⟩, hnone, hne2⟩
set_option maxHeartbeats 8000000 in
set_option maxRecDepth 100000 in
theorem write64_any (hh : Int) (hh2 : hh = 2 ∨ hh = 3) (g : Nat) (Zp : Nat → Prop) (s : List UInt64) (z0 : List UInt32) (hs : s.length = 8) (hz : z0.length = 8) (N : UInt64) (A : Option Addr) (r c : Nat) (l : List UInt8) (D : Option Addr) (n d : Nat) (t : List UInt8) (w : World) (hdg : Blk w g 81 (dig hh z0 s (.slice A r c) N)) (hrd : ReadsB w w.heap.size A r l) (hrc : r ≤ c) (hA : A = none → r = 0) (hneA : 0 < r → ∀ ad, A = some ad → ad.block ≠ g ∧ Zp ad.block) (hZ : ∀ b, w.heap.size ≤ b → Zp b)
    (htb : Blk w 1 119 (arr64 Sha64.K)) (ht : ReadsB w w.heap.size D n t) (hneD : 0 < n → ∀ ad, D = some ad → ad.block ≠ g) (hlen : r + n ≤ 140737488355328) :
    Calls Tryd.prog 43 #[.pointer (some ⟨g, 0, none⟩), .slice D n d] w fun e w' => e = .returned (.tuple #[]) ∧ w.grownBy w' (some g) ∧ ∃ A' r' c', Blk w' g 81 (dig hh z0 (Sha64.feed ((r + n) / 128) (l ++ t) s) (.slice A' r' c') (N + UInt64.ofNat n)) ∧ ReadsB w' w'.heap.size A' r' ((l ++ t).drop (128 * ((r + n) / 128))) ∧ r' ≤ c' ∧ (A' = none → r' = 0) ∧ (0 < r' → ∀ ad, A' = some ad → ad.block ≠ g ∧ Zp ad.block) ∧ r' = (r + n) % 128 := by
  have Hs := hd hs
  have Hz := hd hz
  clear hs hz
  have hh1 : ¬ hh = 1 := by omega
  have hglt := hdg.lt
  have hgk : 1 ≠ g := htb.ne_ hdg (by decide)
  have w1 : IntKind.u64.wrap (n : Int) = ((n64 (UInt64.ofNat n) : Nat) : Int) := by rw [wrap_n64, BitVec.ofInt_natCast]; rfl
  obtain ⟨N2, HN2⟩ : ∃ x, Hd (N + UInt64.ofNat n = x) := ⟨_, ⟨rfl⟩⟩
  have c0 : w.cell? ⟨g, 0, none⟩ = some (.int .i64 hh) := (hdg.cell 0).trans dig_h
  have c18 : w.cell? ⟨g, 18, none⟩ = some (.int .u64 ((n64 N : Nat) : Int)) := (hdg.cell 18).trans (dig_n Hz.out Hs.out)
  have f18 := hdg.frozen 18
  have hdg1 := hdg.set_ 18 (.int .u64 ((n64 (N + UInt64.ofNat n) : Nat) : Int))
  rw [dig_set_n Hz.out Hs.out] at hdg1
  have hK1 : Kept w.heap.size g w (w.setCell ⟨g, 18, none⟩ (.int .u64 ((n64 (N + UInt64.ofNat n) : Nat) : Int))) := grown_kept (grew_setCell (World.grownBy.refl w (some g)) 18 _) (fun k hk => .inr (by injection hk with hk; exact hk.symm)) (Nat.le_refl _)
  have c0' : (w.setCell ⟨g, 18, none⟩ (.int .u64 ((n64 (N + UInt64.ofNat n) : Nat) : Int))).cell? ⟨g, 0, none⟩ = some (.int .i64 hh) := (hdg1.cell 0).trans dig_h
  go_enter Tryd.func43, Tryd.ntmps43
  go_wp2_with (go_at_call 41; refine (blockSize_23 hh hh2 _).mono ?_; rintro e w3 ⟨rfl, rfl⟩)
  refine wp_name (fun wo => Blk wo g 81 (dig hh z0 s (.slice A r c) N2) ∧ Kept w.heap.size g w wo) ⟨by rw [← HN2.out]; exact hdg1, hK1⟩ ?_
  clear c0 c18 f18 hdg1 hK1 c0' w1
  rintro w1 ⟨hdg1, hK1⟩
  have c17 : w1.drew.cell? ⟨g, 17, none⟩ = some (.slice A r c) := (hdg1.drew.cell 17).trans (dig_rest Hz.out Hs.out)
  have v1 : (r : Int) ≤ (c : Int) := by omega
  have f17 := hdg1.drew.frozen 17
  have hr1 : ReadsB w1.drew w.heap.size A r l := (reads_kept064 hrd hK1 (fun h0 ad e => (hneA h0 ad e).1)).drew
  have ht1 : ReadsB w1.drew w.heap.size D n t := (reads_kept064 ht hK1 hneD).drew
  have hBs : w.heap.size ≤ w1.drew.heap.size := hK1.size
  apply region_partF (R := fun (F : Option Addr → Nat → Act) a' w' => ∃ A2 c2 w2, ReadsB w2 w2.heap.size A2 (r + n) (l ++ t) ∧ r + n ≤ c2 ∧ (A2 = none → r + n = 0) ∧ w1.drew.grownBy w2 none ∧ (∀ b, A2 = some b → (A = some b ∧ n = 0) ∨ w1.drew.heap.size ≤ b.block) ∧ a' = F A2 c2 ∧ w' = w2.setCell ⟨g, 17, none⟩ (.slice A2 (r + n) c2))
  · go_region_law (first | (refine step_appendR (by rfl) _ _ (by rfl) (by rfl) (by rfl) hr1 hA ht1 hlen hBs ?_; intro A2 c2 w2 hr2 hc2 hA2 gr2 hn2; have hdg2 := hdg1.drew.grown gr2 (by simp); have f17b := hdg2.frozen 17; have c17b := (hdg2.cell 17).trans (dig_rest Hz.out Hs.out)))
    all_goals exact ⟨A2, c2, w2, hr2, hc2, hA2, gr2, hn2, rfl, rfl⟩
  · rintro a2 w2' ⟨A2, c2, w2, hr2, hc2, hA2, gr2, hn2, rfl, rfl⟩
    have hdg2 := hdg1.drew.grown gr2 (by simp)
    clear c17 f17 hr1 ht1
    have hneA2 : 0 < r + n → ∀ ad, A2 = some ad → ad.block ≠ g ∧ Zp ad.block := fun h0 ad e => by
      rcases hn2 ad e with h | h
      · exact hneA (by omega) ad h.1
      · have hfr : w.heap.size ≤ ad.block := Nat.le_trans hBs h
        exact ⟨by omega, hZ _ hfr⟩
    have hdg3 := hdg2.set_ 17 (.slice A2 (r + n) c2)
    rw [dig_set_rest Hz.out Hs.out] at hdg3
    have hK2 : Kept w2.heap.size g w2 (w2.setCell ⟨g, 17, none⟩ (.slice A2 (r + n) c2)) := grown_kept (grew_setCell (World.grownBy.refl w2 (some g)) 17 _) (fun k hk => .inr (by injection hk with hk; exact hk.symm)) (Nat.le_refl _)
    have hw12 : Kept w.heap.size g w w2 := (hK1.trans (below_kept (Below.refl w.heap.size w1).drew (Nat.le_refl _))).trans (grown_kept gr2 (fun k hk => by cases hk) hBs)
    have hS0 : WrS64 w g (dig hh z0 s (.slice A2 (r + n) c2) N2) A2 (r + n) (l ++ t) (w2.setCell ⟨g, 17, none⟩ (.slice A2 (r + n) c2)) := by
      have hh := reads_kept064 hr2 hK2 (fun h0 ad e => (hneA2 h0 ad e).1)
      have hK3 : Kept w.heap.size g w2 (w2.setCell ⟨g, 17, none⟩ (.slice A2 (r + n) c2)) := ⟨hK2.os, hK2.tape, hK2.output, hK2.size, fun k hk hg => hK2.block k (by have := hw12.size; omega) hg⟩
      have hK4 := hw12.trans hK3
      exact ⟨hdg3, ⟨hh.len, hh.is.more hK2.size⟩, htb.kept hK4 htb.lt hgk, hK4⟩
    clear hK2 hdg2 hdg3 hr2 hw12 gr2 hdg1 hK1 hBs hn2
    have hlen2 := (hS0.rd).len
    go_wp2
    go_loopw [] (fun wr => ∃ (j : Nat) (A' : Option Addr) (r' c' : Nat), 128 * j ≤ r + n ∧ WrS64 w g (dig hh z0 (Sha64.feed j (l ++ t) s) (.slice A' r' c') N2) A' r' ((l ++ t).drop (128 * j)) wr ∧ r' ≤ c' ∧ (A' = none → r' = 0) ∧ (0 < r' → ∀ ad, A' = some ad → ad.block ≠ g ∧ Zp ad.block) ∧ r' = (r + n) - 128 * j) (fun wr => lenAt g wr)
    case atStart => exact ⟨0, A2, r + n, c2, by omega, by rw [Nat.mul_zero, List.drop_zero]; exact hS0, hc2, hA2, hneA2, by omega⟩
    case round =>
      clear hS0
      obtain ⟨j, A', r', c', hj, hS, hrc', hA', hne', hr'⟩ := hrel
      obtain ⟨st, Hst⟩ : ∃ y, Hd (Sha64.feed j (l ++ t) s = y) := ⟨_, ⟨rfl⟩⟩
      rw [Hst.out] at hS
      have Hstl := hd (show st.length = 8 by rw [← Hst.out, Sha64.feed_len, Hs.out])
      have Hr := hd hr'
      clear hr'
      have c17 : wr.cell? ⟨g, 17, none⟩ = some (.slice A' r' c') := (hS.dg.cell 17).trans (dig_rest Hz.out Hstl.out)
      have c0 : wr.cell? ⟨g, 0, none⟩ = some (.int .i64 hh) := (hS.dg.cell 0).trans dig_h
      have Hm := hd (lenAt_is c17)
      by_cases hge : 128 ≤ r'
      · have tk : (128 : Int) ≤ (r' : Int) := by omega
        go_wp2
        obtain ⟨x, Hx⟩ : ∃ y, Hd (((l ++ t).drop (128 * j)).take 128 = y) := ⟨_, ⟨rfl⟩⟩
        have Hnx := hd (show Sha64.feed (j + 1) (l ++ t) s = Sha64.block st (Sha64.words x) by rw [Sha64.feed_snoc, Hst.out, Hx.out])
        have hT0 : WrT64 hh w g z0 (.slice A' r' c') N2 A' r' ((l ++ t).drop (128 * j)) wr := ⟨st, Hstl.out, hS⟩
        have hSd := hS.next (Below.refl wr.heap.size wr).drew
        refine wp_region_held_drew (S := WrT64 hh w g z0 (.slice A' r' c') N2 A' r' ((l ++ t).drop (128 * j))) (by kernel_rfl) ⟨st, Hstl.out, hSd⟩ ?_
        intro hT1
        clear hT0 hS c17 c0
        refine held_take 0 (o := _) rfl (by kernel_rfl) (by kernel_rfl) (by kernel_rfl) rfl (.pointer (some ⟨g, 0, none⟩)) (fun _ _ _ h => h) (fun W hW => run_move (by rfl) (by simp [Act.eval]) W) (by assumption) ?_
        simp only [Act.put, List.getElem_toArray, List.getElem_cons_succ, List.getElem_cons_zero, List.setIfInBounds_toArray, List.set_cons_zero, List.set_cons_succ]
        refine held_take 1 (o := _) rfl (by kernel_rfl) (by kernel_rfl) (by kernel_rfl) rfl (.pointer (some ⟨g, 0, none⟩)) (fun _ _ _ h => h) (fun W hW => run_nilCheck (by rfl) (by simp [Act.eval])) (by assumption) ?_
        simp only [Act.put, List.getElem_toArray, List.getElem_cons_succ, List.getElem_cons_zero, List.setIfInBounds_toArray, List.set_cons_zero, List.set_cons_succ]
        refine held_take 2 (o := _) rfl (by kernel_rfl) (by kernel_rfl) (by kernel_rfl) rfl (.pointer (some ⟨g, 9, none⟩)) (fun _ _ _ h => h) (fun W hW => run_fieldAddr (by rfl) (by simp [Act.eval]) (field_dig g 2 9 (by simp))) (by assumption) ?_
        simp only [Act.put, List.getElem_toArray, List.getElem_cons_succ, List.getElem_cons_zero, List.setIfInBounds_toArray, List.set_cons_zero, List.set_cons_succ]
        refine held_take 3 (o := _) rfl (by kernel_rfl) (by kernel_rfl) (by kernel_rfl) rfl (.pointer (some ⟨g, 0, none⟩)) (fun _ _ _ h => h) (fun W hW => run_move (by rfl) (by simp [Act.eval]) W) (by assumption) ?_
        simp only [Act.put, List.getElem_toArray, List.getElem_cons_succ, List.getElem_cons_zero, List.setIfInBounds_toArray, List.set_cons_zero, List.set_cons_succ]
        refine held_take 4 (o := _) rfl (by kernel_rfl) (by kernel_rfl) (by kernel_rfl) rfl (.pointer (some ⟨g, 0, none⟩)) (fun _ _ _ h => h) (fun W hW => run_nilCheck (by rfl) (by simp [Act.eval])) (by assumption) ?_
        simp only [Act.put, List.getElem_toArray, List.getElem_cons_succ, List.getElem_cons_zero, List.setIfInBounds_toArray, List.set_cons_zero, List.set_cons_succ]
        refine held_take 5 (o := _) rfl (by kernel_rfl) (by kernel_rfl) (by kernel_rfl) rfl (.pointer (some ⟨g, 17, none⟩)) (fun _ _ _ h => h) (fun W hW => run_fieldAddr (by rfl) (by simp [Act.eval]) (field_dig g 3 17 (by simp))) (by assumption) ?_
        simp only [Act.put, List.getElem_toArray, List.getElem_cons_succ, List.getElem_cons_zero, List.setIfInBounds_toArray, List.set_cons_zero, List.set_cons_succ]
        refine held_take 6 (o := _) rfl (by kernel_rfl) (by kernel_rfl) (by kernel_rfl) rfl (.slice A' r' c') (fun _ _ _ h => h) (fun W hW => run_execOp_load (by rfl) (by simp [Act.eval]) (run_load_sl ⟨g, 17, none⟩ _ W (by obtain ⟨st', hl', hW'⟩ := hW; exact (hW'.dg.cell 17).trans (dig_rest Hz.out hl')))) (by assumption) ?_
        simp only [Act.put, List.getElem_toArray, List.getElem_cons_succ, List.getElem_cons_zero, List.setIfInBounds_toArray, List.set_cons_zero, List.set_cons_succ]
        refine held_take 7 (o := _) rfl (by kernel_rfl) (by kernel_rfl) (by kernel_rfl) rfl (.slice A' 128 c') (fun _ _ _ h => h) (fun W hW => run_slice_toB (by rfl) Tryd.underlying30 u8_one3 A' r' c' 128 (by simp [Act.eval]) (by simp [Act.eval]) (by omega)) (by assumption) ?_
        simp only [Act.put, List.getElem_toArray, List.getElem_cons_succ, List.getElem_cons_zero, List.setIfInBounds_toArray, List.set_cons_zero, List.set_cons_succ]
        refine held_take 9 (o := _) rfl (by kernel_rfl) (by kernel_rfl) (by kernel_rfl) rfl (.slice (some ⟨1, 0, none⟩) 80 80) (fun _ _ _ h => h) (fun W hW => run_sliceTab64 (by rfl) (by rfl)) (by assumption) ?_
        simp only [Act.put, List.getElem_toArray, List.getElem_cons_succ, List.getElem_cons_zero, List.setIfInBounds_toArray, List.set_cons_zero, List.set_cons_succ]
        refine held_take 10 (o := _) rfl (by kernel_rfl) (by kernel_rfl) (by kernel_rfl) rfl (.agg (three 1 8 7)) (fun _ _ _ h => h) (fun W hW => run_build_ps (parts := [(0, .const (.int .i64 1)), (1, .const (.int .i64 8)), (2, .const (.int .i64 7))]) (by rfl) [(0, .int .i64 1), (1, .int .i64 8), (2, .int .i64 7)] (by rfl) built3_64.1 W) (by assumption) ?_
        simp only [Act.put, List.getElem_toArray, List.getElem_cons_succ, List.getElem_cons_zero, List.setIfInBounds_toArray, List.set_cons_zero, List.set_cons_succ]
        refine held_take 11 (o := _) rfl (by kernel_rfl) (by kernel_rfl) (by kernel_rfl) rfl (.agg (three 19 61 6)) (fun _ _ _ h => h) (fun W hW => run_build_ps (parts := [(0, .const (.int .i64 19)), (1, .const (.int .i64 61)), (2, .const (.int .i64 6))]) (by rfl) [(0, .int .i64 19), (1, .int .i64 61), (2, .int .i64 6)] (by rfl) built3_64.2.1 W) (by assumption) ?_
        simp only [Act.put, List.getElem_toArray, List.getElem_cons_succ, List.getElem_cons_zero, List.setIfInBounds_toArray, List.set_cons_zero, List.set_cons_succ]
        refine held_take 12 (o := _) rfl (by kernel_rfl) (by kernel_rfl) (by kernel_rfl) rfl (.agg (three 28 34 39)) (fun _ _ _ h => h) (fun W hW => run_build_ps (parts := [(0, .const (.int .i64 28)), (1, .const (.int .i64 34)), (2, .const (.int .i64 39))]) (by rfl) [(0, .int .i64 28), (1, .int .i64 34), (2, .int .i64 39)] (by rfl) built3_64.2.2.1 W) (by assumption) ?_
        simp only [Act.put, List.getElem_toArray, List.getElem_cons_succ, List.getElem_cons_zero, List.setIfInBounds_toArray, List.set_cons_zero, List.set_cons_succ]
        refine held_take 13 (o := _) rfl (by kernel_rfl) (by kernel_rfl) (by kernel_rfl) rfl (.agg (three 14 18 41)) (fun _ _ _ h => h) (fun W hW => run_build_ps (parts := [(0, .const (.int .i64 14)), (1, .const (.int .i64 18)), (2, .const (.int .i64 41))]) (by rfl) [(0, .int .i64 14), (1, .int .i64 18), (2, .int .i64 41)] (by rfl) built3_64.2.2.2 W) (by assumption) ?_
        simp only [Act.put, List.getElem_toArray, List.getElem_cons_succ, List.getElem_cons_zero, List.setIfInBounds_toArray, List.set_cons_zero, List.set_cons_succ]
        refine held_take 14 (o := _) rfl (by kernel_rfl) (by kernel_rfl) (by kernel_rfl) rfl (.agg kind64) (fun _ _ _ h => h) (fun W hW => run_build_ps (parts := [(0, .const (.int .i64 64)), (1, .tmp 87), (2, .tmp 88), (3, .tmp 89), (4, .tmp 90)]) (by rfl) [(0, .int .i64 64), (1, .agg (three 1 8 7)), (2, .agg (three 19 61 6)), (3, .agg (three 28 34 39)), (4, .agg (three 14 18 41))] (by simp [Act.eval]) builtKind64 W) (by assumption) ?_
        simp only [Act.put, List.getElem_toArray, List.getElem_cons_succ, List.getElem_cons_zero, List.setIfInBounds_toArray, List.set_cons_zero, List.set_cons_succ]
        refine held_callG 8 (by kernel_rfl) (o := _) rfl (by simp [Region.wanted, yielded]) 57 _ _ rfl #[.slice A' 128 c', .int .i64 8, .int .i64 80] (by simp [Act.eval]) (enter_words64 _) ?_
        refine (words64_any A' c' x wr.drew (by rw [← Hx.out]; exact hSd.rd.take (by omega)) (by omega)).mono ?_
        rintro e w5 ⟨v5, rfl, own5, hB5⟩
        have hS5 := hSd.next hB5
        refine ⟨_, rfl, ⟨st, Hstl.out, hS5⟩, ?_⟩
        intro _
        simp only [Act.put, List.getElem_toArray, List.getElem_cons_succ, List.getElem_cons_zero, List.setIfInBounds_toArray, List.set_cons_zero, List.set_cons_succ]
        refine held_callG 15 (by kernel_rfl) (o := _) rfl (by simp [Region.wanted, yielded]) 56 _ _ rfl #[.pointer (some ⟨g, 9, none⟩), v5, .slice (some ⟨1, 0, none⟩) 80 80, .agg kind64] (by simp [Act.eval]) (enter_blocked64 _) ?_
        have hgw : g < wr.drew.heap.size := hSd.dg.lt
        refine (blocked64_any g 1 (#[.int .i64 hh] ++ arr32 z0) #[.slice A' r' c', .int .u64 ((n64 N2 : Nat) : Int)] st (by rw [Array.size_append, arr32_size, Hz.out]; rfl) Hstl.out wr.drew.heap.size v5 (Sha64.words x) w5 hS5.dg hS5.tb hgw hSd.tb.lt hB5.size own5 (Sha64.wordsTo_len _ 16)).mono ?_
        rintro e w6 ⟨rfl, hdg6, hK6⟩
        have hdg6 : Blk w6 g 81 (dig hh z0 (Sha64.block st (Sha64.words x)) (.slice A' r' c') N2) := hdg6
        have hK7 : Kept wr.drew.heap.size g wr.drew w6 := (below_kept hB5 (Nat.le_refl _)).trans hK6
        have hS6 : WrS64 w g (dig hh z0 (Sha64.block st (Sha64.words x)) (.slice A' r' c') N2) A' r' ((l ++ t).drop (128 * j)) w6 := by
          have hh := reads_kept64 hSd.rd hK7 (fun ad e => (hne' (by omega) ad e).1)
          exact ⟨hdg6, ⟨hh.len, hh.is.more hK7.size⟩, hSd.tb.kept hK7 hSd.tb.lt hgk, hSd.kept.trans (hK7.mono hSd.kept.size)⟩
        refine ⟨_, rfl, ⟨_, by rw [Sha64.block_len, Hstl.out], hS6⟩, ?_⟩
        intro _
        simp only [Act.put, List.getElem_toArray, List.getElem_cons_succ, List.getElem_cons_zero, List.setIfInBounds_toArray, List.set_cons_zero, List.set_cons_succ]
        refine wpAnyH_done (by kernel_rfl) ?_ _
        clear hSd hS5 hB5 own5 hdg6 hK6 hK7
        rw [← Hnx.out] at hS6
        have Hbl := hd (show (Sha64.block st (Sha64.words x)).length = 8 by rw [Sha64.block_len, Hstl.out])
        have Hfl := hd (show (Sha64.feed (j + 1) (l ++ t) s).length = 8 by rw [Sha64.feed_len, Hs.out])
        have c17 : w6.cell? ⟨g, 17, none⟩ = some (.slice A' r' c') := (hS6.dg.cell 17).trans (dig_rest Hz.out Hfl.out)
        have f17 := hS6.dg.frozen 17
        have v3 : (128 : Int) ≤ (c' : Int) := by omega
        by_cases hcm : c' = 128
        · obtain ⟨hS7, hnone, hne7⟩ := wrNext64 hh Hfl.out Hz.out hS6 hge hrc' (hne' (by omega)) hgk A' (by rw [if_pos hcm])
          have Hm7 := hd (lenAt_is ((hS7.dg.cell 17).trans (dig_rest Hz.out Hfl.out)))
          subst hcm
          obtain rfl : r' = 128 := by omega
          have Hm8 := Hm7.out
          clear Hm7
          simp only [Nat.sub_self] at hS7 Hm8
          have Hm7 := hd Hm8
          clear Hm8
          go_wp2
          go_roundw
          case rel => exact ⟨j + 1, A', 0, 0, by have := Hr.out; omega, by rw [List.drop_drop, show 128 * j + 128 = 128 * (j + 1) by omega] at hS7; exact hS7, by omega, fun _ => rfl, fun _ => hne7, by have := Hr.out; omega⟩
          case measure =>
            rw [Hm7.out, Hm.out]; omega
        · obtain ⟨hS7, hnone, hne7⟩ := wrNext64 hh Hfl.out Hz.out hS6 hge hrc' (hne' (by omega)) hgk (A'.map (fun x => ⟨x.block, x.off + 128, none⟩)) (by rw [if_neg hcm]; rfl)
          have Hm7 := hd (lenAt_is ((hS7.dg.cell 17).trans (dig_rest Hz.out Hfl.out)))
          go_wp2
          go_roundw
          case rel => exact ⟨j + 1, _, r' - 128, c' - 128, by have := Hr.out; omega, by rw [List.drop_drop, show 128 * j + 128 = 128 * (j + 1) by omega] at hS7; exact hS7, by omega, fun e => by have := hA' (hnone e); omega, fun _ => hne7, by have := Hr.out; omega⟩
          case measure =>
            rw [Hm7.out, Hm.out]; omega
      · have tk : ¬ (128 : Int) ≤ (r' : Int) := by omega
        have ej : j = (r + n) / 128 := by have := Hr.out; omega
        subst ej
        go_wp2
        go_end0
        exact ⟨rfl, hS.kept.grown, A', r', c', by rw [HN2.out, Hst.out]; exact hS.dg, hS.rd, hrc', hA', hne', by have := Hr.out; omega⟩

end Go.Proofs.YthigbggacgiamaaDoor

namespace Go.Proofs.YthigbggacgiamaaDoor
open Go.RowKit
namespace Sha
def iv1 : List UInt32 := [1779033703, 3144134277, 1013904242, 2773480762, 1359893119, 2600822924, 528734635, 1541459225]
def iv2 : List UInt64 := [14680500436340154072, 7105036623409894663, 10473403895298186519, 1526699215303891257, 7436329637833083697, 10282925794625328401, 15784041429090275239, 5167115440072839076]
def iv3 : List UInt64 := [7640891576956012808, 13503953896175478587, 4354685564936845355, 11912009170470909681, 5840696475078001361, 11170449401992604703, 2270897969802886507, 6620516959819538809]
def no32 : List UInt32 := [0, 0, 0, 0, 0, 0, 0, 0]
def no64 : List UInt64 := [0, 0, 0, 0, 0, 0, 0, 0]
end Sha
theorem builtDig_1 : Tryd.prog.built 81 [(0, .int .i64 1)] = some (dig 1 Sha.no32 Sha.no64 (.slice none 0 0) 0) := by kernel_rfl
theorem sizeDig_1 : 1 + (Sha.iv1.map W32).length ≤ (dig 1 Sha.no32 Sha.no64 (.slice none 0 0) 0).size := by decide +kernel
theorem splicedIv_1 : splice (dig 1 Sha.no32 Sha.no64 (.slice none 0 0) 0) 1 (Sha.iv1.map W32) = dig 1 Sha.iv1 Sha.no64 (.slice none 0 0) 0 := by kernel_rfl
set_option maxHeartbeats 2000000 in
set_option maxRecDepth 100000 in
theorem new_1 (w : World) : Calls Tryd.prog 22 #[.int .i64 1] w fun e w' => e = .returned (.pointer (some ⟨w.heap.size, 0, none⟩)) ∧ Blk w' w.heap.size 81 (dig 1 Sha.iv1 Sha.no64 (.slice none 0 0) 0) ∧ Below w.heap.size w w' := by
  have b0 : Blk (w.alloc (.cells (dig 1 Sha.no32 Sha.no64 (.slice none 0 0) 0) 81)) w.heap.size 81 (dig 1 Sha.no32 Sha.no64 (.slice none 0 0) 0) := Blk.nu rfl
  have hB := (Below.refl w.heap.size w).alloc (Nat.le_refl _) (.cells (dig 1 Sha.no32 Sha.no64 (.slice none 0 0) 0) 81)
  go_enter Tryd.func22, Tryd.ntmps22
  go_wp2_with (first | (refine wpl_build rfl 81 _ rfl [(0, .int .i64 1)] rfl _ builtDig_1 ?_) | (refine wpl_store rfl 78 _ _ rfl w.heap.size 1 (Sha.iv1.map W32) rfl rfl 81 _ b0 (by kernel_rfl) sizeDig_1 (by intro v hv; obtain ⟨x, _, rfl⟩ := List.mem_map.1 hv; rfl) ?_; rw [splicedIv_1]))
  go_ret
  exact ⟨rfl, b0.setRow _, below_setRow hB (Nat.le_refl _) _⟩
theorem builtDig_2 : Tryd.prog.built 81 [(0, .int .i64 2)] = some (dig 2 Sha.no32 Sha.no64 (.slice none 0 0) 0) := by kernel_rfl
theorem sizeDig_2 : 9 + (Sha.iv2.map W64).length ≤ (dig 2 Sha.no32 Sha.no64 (.slice none 0 0) 0).size := by decide +kernel
theorem splicedIv_2 : splice (dig 2 Sha.no32 Sha.no64 (.slice none 0 0) 0) 9 (Sha.iv2.map W64) = dig 2 Sha.no32 Sha.iv2 (.slice none 0 0) 0 := by kernel_rfl
set_option maxHeartbeats 2000000 in
set_option maxRecDepth 100000 in
theorem new_2 (w : World) : Calls Tryd.prog 22 #[.int .i64 2] w fun e w' => e = .returned (.pointer (some ⟨w.heap.size, 0, none⟩)) ∧ Blk w' w.heap.size 81 (dig 2 Sha.no32 Sha.iv2 (.slice none 0 0) 0) ∧ Below w.heap.size w w' := by
  have b0 : Blk (w.alloc (.cells (dig 2 Sha.no32 Sha.no64 (.slice none 0 0) 0) 81)) w.heap.size 81 (dig 2 Sha.no32 Sha.no64 (.slice none 0 0) 0) := Blk.nu rfl
  have hB := (Below.refl w.heap.size w).alloc (Nat.le_refl _) (.cells (dig 2 Sha.no32 Sha.no64 (.slice none 0 0) 0) 81)
  go_enter Tryd.func22, Tryd.ntmps22
  go_wp2_with (first | (refine wpl_build rfl 81 _ rfl [(0, .int .i64 2)] rfl _ builtDig_2 ?_) | (refine wpl_store rfl 79 _ _ rfl w.heap.size 9 (Sha.iv2.map W64) rfl rfl 81 _ b0 (by kernel_rfl) sizeDig_2 (by intro v hv; obtain ⟨x, _, rfl⟩ := List.mem_map.1 hv; rfl) ?_; rw [splicedIv_2]))
  go_ret
  exact ⟨rfl, b0.setRow _, below_setRow hB (Nat.le_refl _) _⟩
theorem builtDig_3 : Tryd.prog.built 81 [(0, .int .i64 3)] = some (dig 3 Sha.no32 Sha.no64 (.slice none 0 0) 0) := by kernel_rfl
theorem sizeDig_3 : 9 + (Sha.iv3.map W64).length ≤ (dig 3 Sha.no32 Sha.no64 (.slice none 0 0) 0).size := by decide +kernel
theorem splicedIv_3 : splice (dig 3 Sha.no32 Sha.no64 (.slice none 0 0) 0) 9 (Sha.iv3.map W64) = dig 3 Sha.no32 Sha.iv3 (.slice none 0 0) 0 := by kernel_rfl
set_option maxHeartbeats 2000000 in
set_option maxRecDepth 100000 in
theorem new_3 (w : World) : Calls Tryd.prog 22 #[.int .i64 3] w fun e w' => e = .returned (.pointer (some ⟨w.heap.size, 0, none⟩)) ∧ Blk w' w.heap.size 81 (dig 3 Sha.no32 Sha.iv3 (.slice none 0 0) 0) ∧ Below w.heap.size w w' := by
  have b0 : Blk (w.alloc (.cells (dig 3 Sha.no32 Sha.no64 (.slice none 0 0) 0) 81)) w.heap.size 81 (dig 3 Sha.no32 Sha.no64 (.slice none 0 0) 0) := Blk.nu rfl
  have hB := (Below.refl w.heap.size w).alloc (Nat.le_refl _) (.cells (dig 3 Sha.no32 Sha.no64 (.slice none 0 0) 0) 81)
  go_enter Tryd.func22, Tryd.ntmps22
  go_wp2_with (first | (refine wpl_build rfl 81 _ rfl [(0, .int .i64 3)] rfl _ builtDig_3 ?_) | (refine wpl_store rfl 79 _ _ rfl w.heap.size 9 (Sha.iv3.map W64) rfl rfl 81 _ b0 (by kernel_rfl) sizeDig_3 (by intro v hv; obtain ⟨x, _, rfl⟩ := List.mem_map.1 hv; rfl) ?_; rw [splicedIv_3]))
  go_ret
  exact ⟨rfl, b0.setRow _, below_setRow hB (Nat.le_refl _) _⟩
theorem ty_dig : AggT Tryd.prog 81 19 := ⟨by kernel_rfl, by kernel_rfl⟩
theorem zero_dig : (Tryd.prog.info? 81).bind (·.zero) = some (.agg (dig 0 Sha.no32 Sha.no64 (.slice none 0 0) 0)) := by kernel_rfl
theorem dig_size {h : Int} {a : List UInt32} {b : List UInt64} {rest : Value} {n : UInt64} (ha : a.length = 8) (hb : b.length = 8) : (dig h a b rest n).size = 19 := by
  unfold dig; rw [Array.size_append, dig_pre ha hb]; rfl
theorem dig_one {h : Int} {a : List UInt32} {b : List UInt64} {A : Option Addr} {r c : Nat} {n : UInt64} : ∀ v ∈ (dig h a b (.slice A r c) n).toList, v.oneCell' = true := by
  intro v hv
  unfold dig arr32 arr64 at hv
  simp only [Array.toList_append, List.mem_append, List.mem_map, List.mem_cons, List.not_mem_nil, or_false] at hv
  rcases hv with ((rfl | ⟨x, _, rfl⟩) | ⟨x, _, rfl⟩) | (rfl | rfl) <;> rfl
set_option maxHeartbeats 2000000 in
set_option maxRecDepth 100000 in
theorem clone_any (g : Nat) (h : Int) (a : List UInt32) (b : List UInt64) (ha : a.length = 8) (hb : b.length = 8) (A : Option Addr) (r c : Nat) (N : UInt64) (B : Nat) (l : List UInt8) (w : World) (hdg : Blk w g 81 (dig h a b (.slice A r c) N)) (hrd : ReadsB w B A r l) (hB : B ≤ w.heap.size) (hr : r ≤ 140737488355328) :
    Calls Tryd.prog 45 #[.pointer (some ⟨g, 0, none⟩)] w fun e w' => e = .returned (.pointer (some ⟨w.heap.size, 0, none⟩)) ∧ ∃ A' c', Blk w' w.heap.size 81 (dig h a b (.slice A' r c') N) ∧ ReadsB w' w'.heap.size A' r l ∧ r ≤ c' ∧ (A' = none → r = 0) ∧ (∀ ad, A' = some ad → w.heap.size < ad.block ∧ ad.block < w'.heap.size) ∧ Below w.heap.size w w' := by
  have Ha := hd ha
  have Hb := hd hb
  clear ha hb
  have hl := hrd.len
  have Hl := hd hl
  have hglt := hdg.lt
  have hcells : Cells w ⟨g, 0, none⟩ (dig h a b (.slice A r c) N).toList := hdg.cells_at 0 _ (fun j v hv => by rw [Nat.zero_add, ← Array.getElem?_toList]; exact hv)
  have b0 : Blk (w.alloc (.cells (dig 0 Sha.no32 Sha.no64 (.slice none 0 0) 0) 81)) w.heap.size 81 (dig 0 Sha.no32 Sha.no64 (.slice none 0 0) 0) := Blk.nu rfl
  have hB0 := (Below.refl w.heap.size w).alloc (Nat.le_refl _) (.cells (dig 0 Sha.no32 Sha.no64 (.slice none 0 0) 0) 81)
  have b1 := b0.setRow (dig h a b (.slice A r c) N)
  have hB1 := below_setRow hB0 (Nat.le_refl w.heap.size) (dig h a b (.slice A r c) N)
  go_enter Tryd.func45, Tryd.ntmps45
  go_wp2_with (first | (refine wpl_load rfl 81 _ rfl ⟨g, 0, none⟩ rfl 19 ty_dig (dig h a b (.slice A r c) N).toList (by rw [Array.length_toList, dig_size Ha.out Hb.out]) hcells ?_; rw [Array.toArray_toList]) | (refine wpl_alloc rfl 81 rfl _ zero_dig ?_) | (refine wpl_store rfl 81 _ _ rfl w.heap.size 0 (dig h a b (.slice A r c) N).toList rfl (by rw [Array.toArray_toList]; rfl) 81 _ b0 (by rw [Array.length_toList, dig_size Ha.out Hb.out]; exact ty_dig.size) (by rw [Array.length_toList, dig_size Ha.out Hb.out, dig_size (by rfl) (by rfl)]; omega) dig_one ?_; rw [splice_all _ _ (by rw [Array.length_toList, dig_size Ha.out Hb.out, dig_size (by rfl) (by rfl)]), Array.toArray_toList]; refine wpl_name (fun wo => Blk wo w.heap.size 81 (dig h a b (.slice A r c) N) ∧ Below w.heap.size w wo) ⟨b1, hB1⟩ ?_; clear b0 hB0 b1 hB1; rintro wo ⟨bz, hBz⟩; have c17 : wo.cell? ⟨g, 17, none⟩ = some (.slice A r c) := (hBz.cell (p := ⟨g, 17, none⟩) hglt).trans ((hdg.cell 17).trans (dig_rest Ha.out Hb.out)); have own0 : OwnB wo (w.heap.size + 1) (.slice none 0 0) [] := OwnB.nil _ _; have hr1 : ReadsB wo w.heap.size A r l := ⟨hl, (hrd.is.more hB).below hBz⟩; have hBs : w.heap.size + 1 ≤ wo.heap.size := bz.lt) | (at_builtin; refine wpl_appendB rfl _ _ rfl (w.heap.size + 1) (.slice none 0 0) [] rfl own0 w.heap.size A r c l rfl hr1 (by simp; omega) hBs ?_; intro v2 w2 own2 gr2 at2; rw [List.nil_append] at own2; obtain ⟨A2, cp2, e2⟩ := own2.slice; rw [Hl.out] at e2; subst e2; have bz2 := bz.appended own0 gr2 (by decide); have hBz2 := below_appended hBz own0 gr2 (Nat.le_succ _) (Nat.le_of_succ_le hBs); have f17 := bz2.frozen 17; have cz17 := (bz2.cell 17).trans (dig_rest Ha.out Hb.out)))
  have b5 := bz2.set_ 17 (.slice A2 r cp2)
  rw [dig_set_rest Ha.out Hb.out] at b5
  have hB5 := hBz2.setCell (p := ⟨w.heap.size, 17, none⟩) (Nat.le_refl _) (.slice A2 r cp2)
  have hK5 : Kept w2.heap.size w.heap.size w2 (w2.setCell ⟨w.heap.size, 17, none⟩ (.slice A2 r cp2)) := grown_kept (grew_setCell (World.grownBy.refl w2 (some w.heap.size)) 17 _) (fun k hk => .inr (by injection hk with hk; exact hk.symm)) (Nat.le_refl _)
  have hne : ∀ ad, A2 = some ad → w.heap.size < ad.block := fun ad e => by
    subst e
    rcases own2.own.2 with ⟨e, _⟩ | ⟨g', cap, cur, e, hg', _⟩
    · cases e
    · injection e with e1 _ _
      injection e1 with e1
      subst e1
      show w.heap.size < g'
      omega
  have hlt2 : ∀ ad, A2 = some ad → ad.block < w2.heap.size := fun ad e => by
    subst e
    rcases own2.own.2 with ⟨e, _⟩ | ⟨g', cap, cur, e, hg', hh, _⟩
    · cases e
    · injection e with e1 _ _
      injection e1 with e1
      subst e1
      rcases Nat.lt_or_ge g' w2.heap.size with h | h
      · exact h
      · rw [Array.getElem?_eq_none h] at hh; cases hh
  have hnone : A2 = none → r = 0 := fun e => by
    subst e
    rcases own2.own.2 with ⟨e, h0⟩ | ⟨g', cap, cur, e, _⟩
    · have : l.length = 0 := by simpa using h0
      omega
    · injection e with e1 _ _; cases e1
  have hcap : r ≤ cp2 := by
    rcases own2.own.2 with ⟨e, h0⟩ | ⟨g', cap, cur, e, _, _, hnc, _⟩
    · injection e with _ e2 e3; omega
    · injection e with _ e2 e3; omega
  have hr5 := reads_kept32 own2.reads_any.2 hK5 (fun ad e => Nat.ne_of_gt (hne ad e))
  go_ret
  exact ⟨rfl, A2, cp2, b5, ⟨hr5.len, hr5.is.more hK5.size⟩, hcap, hnone, fun ad e => ⟨hne ad e, Nat.lt_of_lt_of_le (hlt2 ad e) hK5.size⟩, hB5⟩
end Go.Proofs.YthigbggacgiamaaDoor

namespace Go.Proofs.YthigbggacgiamaaDoor
open Go.RowKit
namespace Sha
def bsOf (h : Int) : Nat := if h = 1 then 64 else 128
def st32 (h : Int) (l : List UInt8) : List UInt32 := if h = 1 then Sha32.feed (l.length / 64) l iv1 else no32
def st64 (h : Int) (l : List UInt8) : List UInt64 := if h = 1 then no64 else Sha64.feed (l.length / 128) l (if h = 2 then iv2 else iv3)
def restOf (h : Int) (l : List UInt8) : List UInt8 := l.drop (bsOf h * (l.length / bsOf h))
theorem st32_len (h : Int) (l : List UInt8) : (st32 h l).length = 8 := by
  unfold st32; split
  · rw [Sha32.feed_len]; rfl
  · rfl
theorem st64_len (h : Int) (l : List UInt8) : (st64 h l).length = 8 := by
  unfold st64; split
  · rfl
  · rw [Sha64.feed_len]; split <;> rfl
theorem div_add (a n b : Nat) (hb : 0 < b) : (a + n) / b = a / b + (a % b + n) / b := by
  have h := Nat.div_add_mod a b
  have e : a + n = (a % b + n) + b * (a / b) := by omega
  rw [e, Nat.add_mul_div_left _ _ hb, Nat.add_comm]
theorem mod_add (a n b : Nat) : (a + n) % b = (a % b + n) % b := by rw [Nat.mod_add_mod]
theorem drop_full (l t : List UInt8) (b : Nat) : (l ++ t).drop (b * (l.length / b)) = l.drop (b * (l.length / b)) ++ t := by
  rw [List.drop_append_of_le_length (Nat.mul_div_le _ _)]
theorem feed32_on (l t : List UInt8) (s : List UInt32) : Sha32.feed ((l ++ t).length / 64) (l ++ t) s = Sha32.feed ((l.length % 64 + t.length) / 64) (l.drop (64 * (l.length / 64)) ++ t) (Sha32.feed (l.length / 64) l s) := by
  rw [List.length_append, div_add _ _ 64 (by omega), Sha32.feed_add, Sha32.feed_more _ _ _ _ (Nat.mul_div_le _ _), drop_full]
theorem feed64_on (l t : List UInt8) (s : List UInt64) : Sha64.feed ((l ++ t).length / 128) (l ++ t) s = Sha64.feed ((l.length % 128 + t.length) / 128) (l.drop (128 * (l.length / 128)) ++ t) (Sha64.feed (l.length / 128) l s) := by
  rw [List.length_append, div_add _ _ 128 (by omega), Sha64.feed_add, Sha64.feed_more _ _ _ _ (Nat.mul_div_le _ _), drop_full]
theorem rest_on (l t : List UInt8) (b : Nat) (hb : 0 < b) : (l ++ t).drop (b * ((l ++ t).length / b)) = (l.drop (b * (l.length / b)) ++ t).drop (b * ((l.length % b + t.length) / b)) := by
  rw [List.length_append, div_add _ _ b hb, Nat.mul_add, ← List.drop_drop, drop_full]
end Sha
/-- Block g is a digest of hash h that has taken in l; what waits in it lies in a block of which Zp holds. -/
def DigZ (w : World) (B g : Nat) (Zp : Nat → Prop) (h : Int) (l : List UInt8) : Prop :=
  ∃ A c, Blk w g 81 (dig h (Sha.st32 h l) (Sha.st64 h l) (.slice A (l.length % Sha.bsOf h) c) (UInt64.ofNat l.length)) ∧ ReadsB w B A (l.length % Sha.bsOf h) (Sha.restOf h l) ∧ l.length % Sha.bsOf h ≤ c ∧ (A = none → l.length % Sha.bsOf h = 0) ∧ (0 < l.length % Sha.bsOf h → ∀ ad, A = some ad → ad.block ≠ g ∧ Zp ad.block)
/-- .. in no block z. -/
def DigOff (w : World) (B g z : Nat) (h : Int) (l : List UInt8) : Prop := DigZ w B g (fun b => b ≠ z) h l
/-- Block g is a digest of hash h that has taken in l. -/
def DigAt (w : World) (B g : Nat) (h : Int) (l : List UInt8) : Prop := DigOff w B g g h l
theorem DigOff.at_ {w : World} {B g z : Nat} {h : Int} {l : List UInt8} (hd : DigOff w B g z h l) : DigAt w B g h l := by
  obtain ⟨A, c, h1, h2, h3, h4, h5⟩ := hd
  exact ⟨A, c, h1, h2, h3, h4, fun h0 ad e => ⟨(h5 h0 ad e).1, (h5 h0 ad e).1⟩⟩
theorem DigZ.lt {w : World} {B g : Nat} {Zp : Nat → Prop} {h : Int} {l : List UInt8} (hd : DigZ w B g Zp h l) : g < w.heap.size := by
  obtain ⟨_, _, h1, _⟩ := hd; exact h1.lt
theorem DigZ.mono {w : World} {B g : Nat} {Zp Zq : Nat → Prop} {h : Int} {l : List UInt8} (hd : DigZ w B g Zp h l) (hz : ∀ b, Zp b → Zq b) : DigZ w B g Zq h l := by
  obtain ⟨A, c, h1, h2, h3, h4, h5⟩ := hd
  exact ⟨A, c, h1, h2, h3, h4, fun h0 ad e => ⟨(h5 h0 ad e).1, hz _ (h5 h0 ad e).2⟩⟩
/-- What waits lies in no block that is still to be made. -/
theorem DigZ.newer {w : World} {g : Nat} {Zp : Nat → Prop} {h : Int} {l : List UInt8} (hd : DigZ w w.heap.size g Zp h l) (x : Nat) (hx : w.heap.size ≤ x) : DigZ w w.heap.size g (fun b => Zp b ∧ b ≠ x) h l := by
  obtain ⟨A, c, h1, h2, h3, h4, h5⟩ := hd
  refine ⟨A, c, h1, h2, h3, h4, fun h0 ad e => ⟨(h5 h0 ad e).1, (h5 h0 ad e).2, ?_⟩⟩
  obtain ⟨a2, e2, hb, _⟩ := h2.is.2 h0
  rw [e] at e2
  injection e2 with e2
  subst e2
  omega
theorem DigZ.at_ {w : World} {B g : Nat} {Zp : Nat → Prop} {h : Int} {l : List UInt8} (hd : DigZ w B g Zp h l) : DigZ w B g (fun b => b ≠ g) h l := by
  obtain ⟨A, c, h1, h2, h3, h4, h5⟩ := hd
  exact ⟨A, c, h1, h2, h3, h4, fun h0 ad e => ⟨(h5 h0 ad e).1, (h5 h0 ad e).1⟩⟩
theorem DigZ.below {w w' : World} {g : Nat} {Zp : Nat → Prop} {h : Int} {l : List UInt8} (hd : DigZ w w.heap.size g Zp h l) (hb : Below w.heap.size w w') : DigZ w' w'.heap.size g Zp h l := by
  obtain ⟨A, c, h1, h2, h3⟩ := hd
  exact ⟨A, c, h1.below hb h1.lt, ⟨h2.len, (h2.is.below hb).more hb.size⟩, h3⟩
theorem DigZ.grown {w w' : World} {g z : Nat} {Zp : Nat → Prop} {h : Int} {l : List UInt8} (hd : DigZ w w.heap.size g Zp h l) (hg : w.grownBy w' (some z)) (hz : z ≠ g) (hZz : ∀ b, Zp b → b ≠ z) : DigZ w' w'.heap.size g Zp h l := by
  obtain ⟨A, c, h1, h2, h3, h4, h5⟩ := hd
  have hr := reads_kept032 h2 (grown_kept (B := w.heap.size) (g := z) hg (fun k hk => .inr (by injection hk with hk; exact hk.symm)) (Nat.le_refl _)) (fun h0 ad e => hZz _ (h5 h0 ad e).2)
  exact ⟨A, c, h1.grown hg (fun e => by injection e with e; exact hz e.symm), ⟨hr.len, hr.is.more hg.size⟩, h3, h4, h5⟩
theorem DigOff.lt {w : World} {B g z : Nat} {h : Int} {l : List UInt8} (hd : DigOff w B g z h l) : g < w.heap.size := by
  obtain ⟨_, _, h1, _⟩ := hd; exact h1.lt
theorem DigOff.below {w w' : World} {g z : Nat} {h : Int} {l : List UInt8} (hd : DigOff w w.heap.size g z h l) (hb : Below w.heap.size w w') : DigOff w' w'.heap.size g z h l := by
  obtain ⟨A, c, h1, h2, h3⟩ := hd
  exact ⟨A, c, h1.below hb h1.lt, ⟨h2.len, (h2.is.below hb).more hb.size⟩, h3⟩
theorem DigOff.grown {w w' : World} {g z : Nat} {h : Int} {l : List UInt8} (hd : DigOff w w.heap.size g z h l) (hg : w.grownBy w' (some z)) (hz : z ≠ g) : DigOff w' w'.heap.size g z h l := by
  obtain ⟨A, c, h1, h2, h3, h4, h5⟩ := hd
  have hr := reads_kept032 h2 (grown_kept (B := w.heap.size) (g := z) hg (fun k hk => .inr (by injection hk with hk; exact hk.symm)) (Nat.le_refl _)) (fun h0 ad e => (h5 h0 ad e).2)
  exact ⟨A, c, h1.grown hg (fun e => by injection e with e; exact hz e.symm), ⟨hr.len, hr.is.more hg.size⟩, h3, h4, h5⟩
theorem DigAt.below {w w' : World} {g : Nat} {h : Int} {l : List UInt8} (hd : DigAt w w.heap.size g h l) (hb : Below w.heap.size w w') : DigAt w' w'.heap.size g h l := DigOff.below hd hb
theorem DigAt.lt {w : World} {B g : Nat} {h : Int} {l : List UInt8} (hd : DigAt w B g h l) : g < w.heap.size := DigOff.lt hd
theorem new_off (z : Nat) (h : Int) (hh : h = 1 ∨ h = 2 ∨ h = 3) (w : World) : Calls Tryd.prog 22 #[.int .i64 h] w fun e w' => e = .returned (.pointer (some ⟨w.heap.size, 0, none⟩)) ∧ DigOff w' w'.heap.size w.heap.size z h [] ∧ Below w.heap.size w w' := by
  rcases hh with rfl | rfl | rfl
  · refine (new_1 w).mono ?_
    rintro e w' ⟨rfl, hb, hB⟩
    exact ⟨rfl, ⟨none, 0, hb, ⟨rfl, Reads.none_⟩, Nat.le_refl _, fun _ => rfl, fun _ _ e => by cases e⟩, hB⟩
  · refine (new_2 w).mono ?_
    rintro e w' ⟨rfl, hb, hB⟩
    exact ⟨rfl, ⟨none, 0, hb, ⟨rfl, Reads.none_⟩, Nat.le_refl _, fun _ => rfl, fun _ _ e => by cases e⟩, hB⟩
  · refine (new_3 w).mono ?_
    rintro e w' ⟨rfl, hb, hB⟩
    exact ⟨rfl, ⟨none, 0, hb, ⟨rfl, Reads.none_⟩, Nat.le_refl _, fun _ => rfl, fun _ _ e => by cases e⟩, hB⟩
theorem new_z (h : Int) (hh : h = 1 ∨ h = 2 ∨ h = 3) (w : World) : Calls Tryd.prog 22 #[.int .i64 h] w fun e w' => ∃ g, e = .returned (.pointer (some ⟨g, 0, none⟩)) ∧ g = w.heap.size ∧ (∀ Zp, DigZ w' w'.heap.size g Zp h []) ∧ Below w.heap.size w w' := by
  rcases hh with rfl | rfl | rfl
  · refine (new_1 w).mono ?_
    rintro e w' ⟨rfl, hb, hB⟩
    exact ⟨_, rfl, rfl, fun z => ⟨none, 0, hb, ⟨rfl, Reads.none_⟩, Nat.le_refl _, fun _ => rfl, fun _ _ e => by cases e⟩, hB⟩
  · refine (new_2 w).mono ?_
    rintro e w' ⟨rfl, hb, hB⟩
    exact ⟨_, rfl, rfl, fun z => ⟨none, 0, hb, ⟨rfl, Reads.none_⟩, Nat.le_refl _, fun _ => rfl, fun _ _ e => by cases e⟩, hB⟩
  · refine (new_3 w).mono ?_
    rintro e w' ⟨rfl, hb, hB⟩
    exact ⟨_, rfl, rfl, fun z => ⟨none, 0, hb, ⟨rfl, Reads.none_⟩, Nat.le_refl _, fun _ => rfl, fun _ _ e => by cases e⟩, hB⟩
theorem new_at (h : Int) (hh : h = 1 ∨ h = 2 ∨ h = 3) (w : World) : Calls Tryd.prog 22 #[.int .i64 h] w fun e w' => e = .returned (.pointer (some ⟨w.heap.size, 0, none⟩)) ∧ DigAt w' w'.heap.size w.heap.size h [] ∧ Below w.heap.size w w' := new_off w.heap.size h hh w
/-- .. whatever lies ahead of the call or behind it. -/
theorem clone_far (g : Nat) (h : Int) (l : List UInt8) (w : World) (hd : DigAt w w.heap.size g h l) :
    Calls Tryd.prog 45 #[.pointer (some ⟨g, 0, none⟩)] w fun e w' => e = .returned (.pointer (some ⟨w.heap.size, 0, none⟩)) ∧ (∀ z, z ≤ w.heap.size ∨ w'.heap.size ≤ z → DigOff w' w'.heap.size w.heap.size z h l) ∧ Below w.heap.size w w' := by
  obtain ⟨A, c, h1, h2, h3, h4, h5⟩ := hd
  have hlt : l.length % Sha.bsOf h ≤ 140737488355328 := by
    have hb : Sha.bsOf h = 64 ∨ Sha.bsOf h = 128 := by unfold Sha.bsOf; split <;> simp
    rcases hb with e | e <;> (rw [e]; omega)
  refine (clone_any g h _ _ (Sha.st32_len h l) (Sha.st64_len h l) A _ c _ w.heap.size _ w h1 h2 (Nat.le_refl _) hlt).mono ?_
  rintro e w' ⟨rfl, A', c', k1, k2, k3, k4, k5, k6⟩
  exact ⟨rfl, fun z hz => ⟨A', c', k1, k2, k3, k4, fun _ ad e => by have := k5 ad e; omega⟩, k6⟩
theorem clone_off (g z : Nat) (h : Int) (l : List UInt8) (w : World) (hd : DigAt w w.heap.size g h l) (hz : z ≤ w.heap.size) :
    Calls Tryd.prog 45 #[.pointer (some ⟨g, 0, none⟩)] w fun e w' => e = .returned (.pointer (some ⟨w.heap.size, 0, none⟩)) ∧ DigOff w' w'.heap.size w.heap.size z h l ∧ Below w.heap.size w w' := by
  refine (clone_far g h l w hd).mono ?_
  rintro e w' ⟨rfl, k, kB⟩
  exact ⟨rfl, k z (.inl hz), kB⟩
theorem clone_at (g : Nat) (h : Int) (l : List UInt8) (w : World) (hd : DigAt w w.heap.size g h l) :
    Calls Tryd.prog 45 #[.pointer (some ⟨g, 0, none⟩)] w fun e w' => e = .returned (.pointer (some ⟨w.heap.size, 0, none⟩)) ∧ DigAt w' w'.heap.size w.heap.size h l ∧ Below w.heap.size w w' := clone_off g w.heap.size h l w hd (Nat.le_refl _)
/-- The two tables. -/
def Tabs (w : World) : Prop := Blk w 0 111 (arr32 Sha32.K) ∧ Blk w 1 119 (arr64 Sha64.K)
theorem Tabs.below {w w' : World} (h : Tabs w) (hb : Below w.heap.size w w') : Tabs w' := ⟨h.1.below hb h.1.lt, h.2.below hb h.2.lt⟩
theorem write_z (g : Nat) (Zp : Nat → Prop) (h : Int) (hh : h = 1 ∨ h = 2 ∨ h = 3) (l : List UInt8) (D : Option Addr) (n d : Nat) (t : List UInt8) (w : World) (hZ : ∀ b, w.heap.size ≤ b → Zp b) (hd : DigZ w w.heap.size g Zp h l) (htb : Tabs w) (ht : ReadsB w w.heap.size D n t) (hne : 0 < n → ∀ ad, D = some ad → ad.block ≠ g) (hn : n ≤ 140737488355000) :
    Calls Tryd.prog 43 #[.pointer (some ⟨g, 0, none⟩), .slice D n d] w fun e w' => e = .returned (.tuple #[]) ∧ DigZ w' w'.heap.size g Zp h (l ++ t) ∧ w.grownBy w' (some g) := by
  obtain ⟨A, c, h1, h2, h3, h4, h5⟩ := hd
  have hN : UInt64.ofNat l.length + UInt64.ofNat n = UInt64.ofNat (l ++ t).length := by rw [List.length_append, ht.len, UInt64.ofNat_add]
  rcases (show h = 1 ∨ (h = 2 ∨ h = 3) from hh) with rfl | h23
  · have eb : Sha.bsOf 1 = 64 := rfl
    rw [eb] at h1 h2 h3 h4 h5
    refine (write32_any g Zp (Sha.st32 1 l) (Sha.st64 1 l) (Sha.st32_len _ _) (Sha.st64_len _ _) (UInt64.ofNat l.length) A (l.length % 64) c (Sha.restOf 1 l) D n d t w h1 h2 h3 h4 h5 hZ htb.1 ht hne (by omega)).mono ?_
    rintro e w' ⟨rfl, hg, A', r', c', k1, k2, k3, k4, k5, k6⟩
    have er : r' = (l ++ t).length % 64 := by rw [k6, List.length_append, ht.len, ← Sha.mod_add]
    refine ⟨rfl, ⟨A', c', ?_, ?_, ?_, ?_, ?_⟩, hg⟩
    · rw [eb, ← er, ← hN]
      have e1 : Sha.st32 1 (l ++ t) = Sha32.feed ((l.length % 64 + n) / 64) (Sha.restOf 1 l ++ t) (Sha.st32 1 l) := by
        have h := Sha.feed32_on l t Sha.iv1
        rw [ht.len] at h
        exact h
      rw [e1]
      exact k1
    · rw [eb, ← er]
      have e2 : Sha.restOf 1 (l ++ t) = (Sha.restOf 1 l ++ t).drop (64 * ((l.length % 64 + n) / 64)) := by
        have h := Sha.rest_on l t 64 (by omega)
        rw [ht.len] at h
        exact h
      rw [e2]; exact k2
    · rw [eb, ← er]; exact k3
    · rw [eb, ← er]; exact k4
    · rw [eb, ← er]; exact k5
  · have hne1 : ¬ h = 1 := by omega
    have eb : Sha.bsOf h = 128 := by unfold Sha.bsOf; rw [if_neg hne1]
    rw [eb] at h1 h2 h3 h4 h5
    refine (write64_any h h23 g Zp (Sha.st64 h l) (Sha.st32 h l) (Sha.st64_len _ _) (Sha.st32_len _ _) (UInt64.ofNat l.length) A (l.length % 128) c (Sha.restOf h l) D n d t w h1 h2 h3 h4 h5 hZ htb.2 ht hne (by omega)).mono ?_
    rintro e w' ⟨rfl, hg, A', r', c', k1, k2, k3, k4, k5, k6⟩
    have er : r' = (l ++ t).length % 128 := by rw [k6, List.length_append, ht.len, ← Sha.mod_add]
    refine ⟨rfl, ⟨A', c', ?_, ?_, ?_, ?_, ?_⟩, hg⟩
    · rw [eb, ← er, ← hN]
      have e1 : Sha.st64 h (l ++ t) = Sha64.feed ((l.length % 128 + n) / 128) (Sha.restOf h l ++ t) (Sha.st64 h l) := by
        have h6 := Sha.feed64_on l t (if h = 2 then Sha.iv2 else Sha.iv3)
        rw [ht.len] at h6
        unfold Sha.st64 Sha.restOf
        rw [if_neg hne1, if_neg hne1, eb]
        exact h6
      have e3 : Sha.st32 h (l ++ t) = Sha.st32 h l := by unfold Sha.st32; rw [if_neg hne1, if_neg hne1]
      rw [e1, e3]
      exact k1
    · rw [eb, ← er]
      have e2 : Sha.restOf h (l ++ t) = (Sha.restOf h l ++ t).drop (128 * ((l.length % 128 + n) / 128)) := by
        have h6 := Sha.rest_on l t 128 (by omega)
        rw [ht.len] at h6
        unfold Sha.restOf
        rw [eb]
        exact h6
      rw [e2]; exact k2
    · rw [eb, ← er]; exact k3
    · rw [eb, ← er]; exact k4
    · rw [eb, ← er]; exact k5
theorem write_off (g z : Nat) (h : Int) (hh : h = 1 ∨ h = 2 ∨ h = 3) (l : List UInt8) (D : Option Addr) (n d : Nat) (t : List UInt8) (w : World) (hzw : z < w.heap.size) (hd : DigOff w w.heap.size g z h l) (htb : Tabs w) (ht : ReadsB w w.heap.size D n t) (hne : 0 < n → ∀ ad, D = some ad → ad.block ≠ g) (hn : n ≤ 140737488355000) :
    Calls Tryd.prog 43 #[.pointer (some ⟨g, 0, none⟩), .slice D n d] w fun e w' => e = .returned (.tuple #[]) ∧ DigOff w' w'.heap.size g z h (l ++ t) ∧ w.grownBy w' (some g) :=
  write_z g (fun b => b ≠ z) h hh l D n d t w (fun b hb => by omega) hd htb ht hne hn
theorem write_at (g : Nat) (h : Int) (hh : h = 1 ∨ h = 2 ∨ h = 3) (l : List UInt8) (D : Option Addr) (n d : Nat) (t : List UInt8) (w : World) (hd : DigAt w w.heap.size g h l) (htb : Tabs w) (ht : ReadsB w w.heap.size D n t) (hne : 0 < n → ∀ ad, D = some ad → ad.block ≠ g) (hn : n ≤ 140737488355000) :
    Calls Tryd.prog 43 #[.pointer (some ⟨g, 0, none⟩), .slice D n d] w fun e w' => e = .returned (.tuple #[]) ∧ DigAt w' w'.heap.size g h (l ++ t) ∧ w.grownBy w' (some g) :=
  write_off g g h hh l D n d t w (DigAt.lt hd) hd htb ht hne hn
end Go.Proofs.YthigbggacgiamaaDoor

