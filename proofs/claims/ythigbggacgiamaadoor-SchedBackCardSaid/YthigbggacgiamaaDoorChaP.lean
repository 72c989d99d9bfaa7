/-
  Poly's sum, in plain Lean.
-/
import Derived.Test.YthigbggacgiamaaDoorChaH
set_option linter.unusedVariables false
set_option linter.unusedSimpArgs false
set_option maxRecDepth 100000
namespace Go.Proofs.YthigbggacgiamaaDoor
namespace Cha
def buf (t : List UInt8) : List UInt8 := (t.take 16 ++ (List.replicate 24 (0 : UInt8)).drop (min t.length 16)).set (min t.length 16) 1
theorem buf_len (t : List UInt8) : (buf t).length = 24 := by
  rw [buf, List.length_set, List.length_append, List.length_take, List.length_drop, List.length_replicate]; omega
def absorb (r s : UInt64) (t : List UInt8) (p : P3) : P3 := (p.plus (two (words (buf t) 6) 0) (two (words (buf t) 6) 2) (at_ (words (buf t) 6) 4).toUInt64).times r s
def feedF (r s : UInt64) : Nat → List UInt8 → P3 → P3
  | 0, _, p => p
  | f + 1, l, p => if l = [] then p else feedF r s f (l.drop 16) (absorb r s l p)
def feed (r s : UInt64) (l : List UInt8) (p : P3) : P3 := feedF r s l.length l p
theorem feedF_any (r s : UInt64) : ∀ (f : Nat) (l : List UInt8) (p : P3) (g : Nat), l.length ≤ f → l.length ≤ g → feedF r s f l p = feedF r s g l p
  | 0, l, p, g, h, _ => by
    have e : l = [] := List.eq_nil_of_length_eq_zero (by omega)
    subst e
    cases g <;> simp [feedF]
  | f + 1, l, p, g, h, hg => by
    by_cases h0 : l = []
    · subst h0; cases g <;> simp [feedF]
    · have hl : 0 < l.length := List.length_pos_iff.2 h0
      obtain ⟨g, rfl⟩ : ∃ k, g = k + 1 := ⟨g - 1, by omega⟩
      rw [feedF, if_neg h0, feedF, if_neg h0]
      exact feedF_any r s f _ _ g (by rw [List.length_drop]; omega) (by rw [List.length_drop]; omega)
theorem feed_nil (r s : UInt64) (p : P3) : feed r s [] p = p := rfl
theorem feed_step (r s : UInt64) (l : List UInt8) (p : P3) (h : l ≠ []) : feed r s l p = feed r s (l.drop 16) (absorb r s l p) := by
  have hl : 0 < l.length := List.length_pos_iff.2 h
  obtain ⟨f, hf⟩ : ∃ k, l.length = k + 1 := ⟨l.length - 1, by omega⟩
  rw [feed, hf, feedF, if_neg h, feed]
  exact feedF_any r s f _ _ _ (by rw [List.length_drop]; omega) (Nat.le_refl _)
def less (p : P3) : P3 := if 4 ≤ (p.plus 5 0 0).c then ⟨(p.plus 5 0 0).a, (p.plus 5 0 0).b, (p.plus 5 0 0).c - 4⟩ else p
def dig (p : P3) (i : Nat) : UInt64 := if i = 0 then p.a else if i = 1 then p.b else p.c
theorem dig_cell (p : P3) (i : Nat) (hi : i < 3) : p.cells[i]? = some (.int .u64 ((n64 (dig p i) : Nat) : Int)) := by
  rcases (show i = 0 ∨ i = 1 ∨ i = 2 by omega) with rfl | rfl | rfl <;> rfl
def outTo (p : P3) (i : Nat) : List UInt8 := (List.range 16).map fun k => if k < i then (shr64 (dig p (k / 8)) (8 * (k % 8))).toUInt8 else 0
def out (p : P3) : List UInt8 := (List.range 16).map fun k => (shr64 (dig p (k / 8)) (8 * (k % 8))).toUInt8
theorem outTo_len (p : P3) (i : Nat) : (outTo p i).length = 16 := by simp [outTo]
theorem out_len (p : P3) : (out p).length = 16 := by simp [out]
theorem outTo_none (p : P3) : outTo p 0 = List.replicate 16 0 := by
  have h : outTo p 0 = (List.range 16).map fun _ => (0 : UInt8) := by
    unfold outTo
    apply List.map_congr_left
    intro j _
    rw [if_neg (Nat.not_lt_zero _)]
  rw [h, List.map_const', List.length_range]
theorem outTo_all (p : P3) : outTo p 16 = out p := by
  unfold outTo out
  apply List.map_congr_left
  intro j hj
  rw [if_pos (by simpa using hj)]
theorem outTo_next (p : P3) (i : Nat) : (outTo p i).set i (shr64 (dig p (i / 8)) (8 * (i % 8))).toUInt8 = outTo p (i + 1) := by
  unfold outTo
  apply List.ext_getElem
  · simp
  · intro j h1 h2
    have hj : j < 16 := by simpa using h2
    rw [List.getElem_set, List.getElem_map, List.getElem_map, List.getElem_range]
    by_cases e : i = j
    · subst e; rw [if_pos rfl, if_pos (Nat.lt_succ_self _)]
    · rw [if_neg e]
      by_cases e2 : j < i
      · rw [if_pos e2, if_pos (by omega)]
      · rw [if_neg e2, if_neg (by omega)]
def low (k : List W) : UInt64 := two k 0 &&& 1152921487695413247
def high (k : List W) : UInt64 := two k 2 &&& 1152921487695413244
def sum (k : List W) (text : List UInt8) : P3 := (less (less (feed (low k) (high k) text ⟨0, 0, 0⟩))).plus (two k 4) (two k 6) 0
def poly (key text : List UInt8) : List UInt8 := out (sum (words key 8) text)
theorem poly_len (key text : List UInt8) : (poly key text).length = 16 := out_len _
attribute [irreducible] feed absorb buf outTo out less sum low high poly
end Cha
end Go.Proofs.YthigbggacgiamaaDoor
