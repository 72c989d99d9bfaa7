/-
  The walk of the reference that makes a key ready.
-/
import Derived.Test.YtbcboldepghgpaaRefB
set_option linter.unusedVariables false
set_option linter.unusedSimpArgs false
set_option maxRecDepth 100000
namespace Go.Proofs.Ytbcboldepghgpaa
open Go.RowKit
namespace Aes
theorem boxes_sbox : boxesRun 256 = sbox := by rw [sbox_lit]; kernel_rfl
def zeros : List UInt8 := List.replicate 240 0
theorem zeros_len : zeros.length = 240 := List.length_replicate
def pad (l : List UInt8) : List UInt8 := l ++ List.replicate (240 - l.length) 0
theorem pad_len (l : List UInt8) (h : l.length ≤ 240) : (pad l).length = 240 := by rw [pad, List.length_append, List.length_replicate]; omega
theorem pad_nth (l : List UInt8) (i : Nat) (h : i < l.length) : nth (pad l) i = nth l i := by rw [pad, nth_append, if_pos h]
theorem pad_set (l : List UInt8) (y : UInt8) (h : l.length < 240) : (pad l).set l.length y = pad (l ++ [y]) := by
  rw [pad, pad, List.set_append_right _ _ (Nat.le_refl _), Nat.sub_self, List.length_append, List.length_singleton, show 240 - l.length = (240 - (l.length + 1)) + 1 by omega, List.replicate_succ, List.set_cons_zero, List.append_assoc]
  rfl
theorem pad_splice (l t : List UInt8) (h : l.length + t.length ≤ 240) : splice (arr (pad l)) l.length (t.map U8) = arr (pad (l ++ t)) := by
  rw [splice, arr, arr, List.length_map]
  congr 1
  rw [pad, pad, List.map_append, List.map_append, List.map_append, List.length_append, List.take_append_of_le_length (by simp), List.take_of_length_le (by simp), List.drop_append, List.drop_eq_nil_of_le (by simp), List.nil_append]
  congr 1
  rw [List.length_map, List.map_replicate, List.map_replicate, List.drop_replicate]
  congr 1
  omega
theorem take_next' (l : List UInt8) (k : Nat) (h : k < l.length) : l.take (k + 1) = l.take k ++ [nth l k] := take_next l k h
theorem pad_nil : pad [] = zeros := rfl
attribute [irreducible] zeros pad
/-- What the reference's first loop has made, and the number it goes on with. -/
def refSt (key : List UInt8) (q i : Nat) : List UInt8 × UInt8 := if i < q then (key.take (4 * i), 1) else keyRun key (i - q)
theorem refSt_len (key : List UInt8) (q i : Nat) (h : key.length = 4 * q) : (refSt key q i).1.length = 4 * i := by
  unfold refSt
  split
  · rw [List.length_take]; omega
  · rw [keyRun_len]; omega
theorem refSt_zero (key : List UInt8) (q : Nat) (h : 0 < q) : refSt key q 0 = ([], 1) := by rw [refSt, if_pos h]; rfl
theorem refSt_lo (key : List UInt8) (q i : Nat) (h : i < q) : refSt key q i = (key.take (4 * i), 1) := by rw [refSt, if_pos h]
theorem refSt_hi (key : List UInt8) (q k : Nat) : refSt key q (q + k) = keyRun key k := by rw [refSt, if_neg (by omega), Nat.add_sub_cancel_left]
theorem refSt_to (key : List UInt8) (q i : Nat) (hk : key.length = 4 * q) (h : i < q) : refSt key q (i + 1) = (key.take (4 * i) ++ [nth key (4 * i), nth key (4 * i + 1), nth key (4 * i + 2), nth key (4 * i + 3)], 1) := by
  have e : key.take (4 * (i + 1)) = key.take (4 * i) ++ [nth key (4 * i), nth key (4 * i + 1), nth key (4 * i + 2), nth key (4 * i + 3)] := by
    rw [show 4 * (i + 1) = 4 * i + 3 + 1 by omega, take_next _ _ (by omega), take_next _ _ (by omega), take_next _ _ (by omega), take_next _ _ (by omega)]
    simp
  by_cases h1 : i + 1 < q
  · rw [refSt_lo _ _ _ h1, e]
  · rw [show i + 1 = q + 0 by omega, refSt_hi, keyRun_zero, ← e, show 4 * (i + 1) = key.length by omega, List.take_length]
end Aes
/-- The cells of a key of the reference. -/
def refCells (R : List UInt8) (N : Nat) : Array Value := arr R ++ #[.int .i64 (N : Int)] ++ arr Aes.sbox
theorem refCells_lo (R : List UInt8) (N i : Nat) (h : i < R.length) : (refCells R N)[i]? = some (.int .u8 (n8 (nth R i))) := by
  rw [refCells, Array.getElem?_append_left (by simp [arr_size]; omega), Array.getElem?_append_left (by rw [arr_size]; exact h), arr_get _ _ h]
theorem refCells_N (R : List UInt8) (N : Nat) (h : R.length = 240) : (refCells R N)[240]? = some (.int .i64 (N : Int)) := by
  rw [refCells, Array.getElem?_append_left (by simp [arr_size]; omega), Array.getElem?_append_right (by rw [arr_size]; omega), arr_size, h]; rfl
theorem refCells_box (R : List UInt8) (N : Nat) (h : R.length = 240) (x : UInt8) : (refCells R N)[241 + n8 x]? = some (.int .u8 (n8 (nth Aes.sbox (n8 x)))) := by
  have hs : (arr R ++ #[Value.int .i64 (N : Int)]).size = 241 := by simp [arr_size, h]
  rw [refCells, Array.getElem?_append_right (by omega), hs, Nat.add_sub_cancel_left, arr_get _ _ (by rw [sbox_len]; exact n8_lt x)]
theorem refCells_set (R : List UInt8) (N i : Nat) (y : UInt8) (h : i < R.length) : (refCells R N).setIfInBounds i (.int .u8 (n8 y)) = refCells (R.set i y) N := by
  rw [refCells, refCells, Array.setIfInBounds_append_left (by simp [arr_size]; omega), Array.setIfInBounds_append_left (by rw [arr_size]; exact h), arr_set]
theorem built_refkey (parts : List (Nat × Value)) : Try.prog.built 119 parts = Instr.fill (fun i => (#[(0, 240), (240, 1), (241, 256)] : Array (Nat × Nat))[i]?) (arr (List.replicate 240 0) ++ #[.int .i64 0] ++ arr (List.replicate 256 0)) parts := by kernel_rfl
theorem zero240 : (Try.prog.info? 121).bind (·.zero) = some (.agg (arr Aes.zeros)) := by
  have h : (Try.prog.info? 121).bind (·.zero) = some (.agg (arr (List.replicate 240 0))) := by kernel_rfl
  rw [h]; unfold Aes.zeros; rfl
theorem refkey_cells (N : Nat) : Try.prog.built 119 [(1, .int .i64 (N : Int)), (2, .agg (arr Aes.sbox))] = some (refCells Aes.zeros N) := by
  have hz : (List.replicate 256 (0 : UInt8)).length = 256 := List.length_replicate
  have hr : (List.replicate 240 (0 : UInt8)).length = 240 := List.length_replicate
  have hR : Aes.zeros = List.replicate 240 0 := by unfold Aes.zeros; rfl
  have hl := sbox_len
  rw [built_refkey, refCells, hR]
  generalize List.replicate 256 (0 : UInt8) = Z at hz ⊢
  generalize List.replicate 240 (0 : UInt8) = R at hr ⊢
  generalize Aes.sbox = l at hl ⊢
  rw [fill_cons _ _ 1 240 1 _ _ rfl rfl (by simp [arr_size, hz, hr])]
  have e1 : splice (arr R ++ #[.int .i64 0] ++ arr Z) 240 (Value.int .i64 (N : Int)).cells.toList = arr R ++ #[.int .i64 (N : Int)] ++ arr Z := by
    rw [splice]
    apply Array.ext'
    simp [Value.cells, arr, hr, List.take_append, List.drop_append]
  rw [e1, fill_cons _ _ 2 241 256 _ _ rfl (by show (arr l).size = 256; rw [arr_size, hl]) (by simp [arr_size, hz, hr])]
  rw [Instr.fill]
  congr 1
  rw [splice]
  apply Array.ext'
  simp [Value.cells, arr, hr, hz, hl, List.take_append, List.drop_append]
  rw [List.take_of_length_le (by simp [hr]), List.drop_eq_nil_of_le (by simp [hr]), List.drop_eq_nil_of_le (by simp [hz])]
  simp
namespace Aes
theorem times_two_nat : ∀ i, i < 256 → times (UInt8.ofNat i) 2 = twice (UInt8.ofNat i) := by decide +kernel
theorem times_two (a : UInt8) : times a 2 = twice a := all256 (P := fun a => times a 2 = twice a) times_two_nat a
theorem list4 (l : List UInt8) (h : l.length = 4) : l = [nth l 0, nth l 1, nth l 2, nth l 3] := by
  match l, h with
  | [a, b, c, d], _ => rfl
theorem sbStep_all (t : List UInt8) (h : t.length = 4) : iter (sbStep t) 4 t = [sb (nth t 0), sb (nth t 1), sb (nth t 2), sb (nth t 3)] := by
  match t, h with
  | [a, b, c, d], _ => rfl
end Aes
theorem refAt_keys {w : World} {g : Nat} {key : List UInt8} {K : Nat} (hk : key.length = 16 ∧ K = 10 ∨ key.length = 32 ∧ K = 14) (h : Blk w g 119 (refCells (Aes.pad (Aes.keyAll key)) K)) : RefAt w g (Aes.keys key) := by
  have hl : (Aes.keys key).length = K + 1 := by
    rw [Aes.keys_len key (by omega)]
    rcases hk with ⟨h1, h2⟩ | ⟨h1, h2⟩
    · rw [if_pos h1]; omega
    · rw [if_neg (by omega)]; omega
  have ha : (Aes.keyAll key).length = 16 * (K + 1) := by
    rw [Aes.keyAll, Aes.keyRun_len, Aes.rounds]
    rcases hk with ⟨h1, h2⟩ | ⟨h1, h2⟩
    · rw [if_pos h1]; omega
    · rw [if_neg (by omega)]; omega
  have hp : (Aes.pad (Aes.keyAll key)).length = 240 := Aes.pad_len _ (by omega)
  refine ⟨_, h, by rw [refCells_N _ _ hp, hl, Nat.add_sub_cancel], fun x => refCells_box _ _ hp x, fun i hi => ?_⟩
  have e : (Aes.keys key).getD i [] = ((Aes.keyAll key).drop (16 * i)).take 16 := by
    rw [Aes.keys, Aes.pieces_get _ _ _ (by rw [Aes.keys, Aes.pieces_len] at hi; exact hi)]
  rw [hl] at hi
  rw [e]
  refine ⟨by rw [List.length_take, List.length_drop]; omega, fun j hj => ?_⟩
  rw [refCells_lo _ _ _ (by omega), Aes.pad_nth _ _ (by omega), Aes.nth_take _ _ _ hj, Aes.nth_drop, show i * 16 + j = 16 * i + j by omega]
theorem ReadsB.all {w : World} {B : Nat} {A : Option Addr} {n : Nat} {l : List UInt8} (h : ReadsB w B A n l) (hn : 0 < n) : ∃ ad, A = some ad ∧ ad.block < B ∧ ∀ j, j < n → w.cell? (ad.add j) = some (.int .u8 (n8 (nth l j))) := by
  obtain ⟨ad, hA, had, _⟩ := h.cell (k := 0) hn
  refine ⟨ad, hA, had, fun j hj => ?_⟩
  obtain ⟨ad2, hA2, _, hc⟩ := h.cell (k := j) hj
  rw [hA] at hA2
  injection hA2 with e
  rw [e]; exact hc
end Go.Proofs.Ytbcboldepghgpaa
