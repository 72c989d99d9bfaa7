/-
  The plain law of one way: what is read is written again; what is written is read.
-/
import Derived.Test.YthkggeohdclffaaDoorDerC
set_option linter.unusedVariables false
set_option linter.unusedSimpArgs false
set_option maxRecDepth 100000
namespace Go.Proofs.YthkggeohdclffaaDoor
open Go.RowKit
namespace Der
theorem byteOf_n8 (x : Int) : x % 256 = ((n8 (byteOf x) : Nat) : Int) := derMod8 x
theorem n8_inj {a b : UInt8} (h : n8 a = n8 b) : a = b := UInt8.toNat_inj.1 h
theorem byteOf_nat (c : UInt8) : byteOf ((n8 c : Nat) : Int) = c := n8_inj (by have h := byteOf_n8 ((n8 c : Nat) : Int); have := n8_lt c; omega)
theorem byteOf_lo (c d : UInt8) : byteOf ((n8 c * 256 + n8 d : Nat) : Int) = d := n8_inj (by have h := byteOf_n8 ((n8 c * 256 + n8 d : Nat) : Int); have := n8_lt d; omega)
theorem byteOf_hi (c d : UInt8) : byteOf (((n8 c * 256 + n8 d : Nat) : Int) / 256) = c := n8_inj (by have h := byteOf_n8 (((n8 c * 256 + n8 d : Nat) : Int) / 256); have := n8_lt d; have := n8_lt c; omega)
theorem lt128 (c : UInt8) : c < 128 ↔ n8 c < 128 := UInt8.lt_iff_toNat_lt
theorem len_cons1 (c : UInt8) (s : List UInt8) (h : c < 128) : len (c :: s) = (n8 c, 1, 0) := by
  unfold len
  rw [if_neg (by simp), show nth (c :: s) 0 = c from rfl, if_pos h]
theorem len_cons2 (c : UInt8) (s : List UInt8) (h : 128 ≤ n8 c) : len (129 :: c :: s) = (n8 c, 2, 0) := by
  unfold len
  rw [if_neg (by simp), show nth (129 :: c :: s) 0 = 129 from rfl, show nth (129 :: c :: s) 1 = c from rfl, if_neg (by decide), if_pos rfl, if_neg (by simp), if_neg (by omega)]
theorem len_cons3 (c d : UInt8) (s : List UInt8) (h : 256 ≤ n8 c * 256 + n8 d) : len (130 :: c :: d :: s) = (n8 c * 256 + n8 d, 3, 0) := by
  unfold len
  rw [if_neg (by simp), show nth (130 :: c :: d :: s) 0 = 130 from rfl, show nth (130 :: c :: d :: s) 1 = c from rfl, show nth (130 :: c :: d :: s) 2 = d from rfl, if_neg (by decide), if_neg (by decide), if_pos rfl, if_neg (by simp), if_neg (by omega)]
/-- The three forms of a length. -/
theorem len_forms (r : List UInt8) (h : (len r).2.2 = 0) :
    (∃ c s, r = c :: s ∧ c < 128 ∧ len r = (n8 c, 1, 0)) ∨ (∃ c s, r = 129 :: c :: s ∧ 128 ≤ n8 c ∧ len r = (n8 c, 2, 0)) ∨ (∃ c d s, r = 130 :: c :: d :: s ∧ 256 ≤ n8 c * 256 + n8 d ∧ len r = (n8 c * 256 + n8 d, 3, 0)) := by
  cases r with
  | nil => unfold len at h; simp at h
  | cons c s =>
    by_cases h1 : c < 128
    · exact .inl ⟨c, s, rfl, h1, len_cons1 c s h1⟩
    by_cases h2 : c = 129
    · subst h2
      cases s with
      | nil => unfold len at h; simp [nth] at h
      | cons c s =>
        by_cases h3 : 128 ≤ n8 c
        · exact .inr (.inl ⟨c, s, rfl, h3, len_cons2 c s h3⟩)
        · unfold len at h
          rw [if_neg (by simp), show nth (129 :: c :: s) 0 = 129 from rfl, show nth (129 :: c :: s) 1 = c from rfl, if_neg (by decide), if_pos rfl, if_neg (by simp), if_pos (by omega)] at h
          simp at h
    by_cases h4 : c = 130
    · subst h4
      cases s with
      | nil => unfold len at h; simp [nth] at h
      | cons c s =>
        cases s with
        | nil => unfold len at h; simp [nth] at h
        | cons d s =>
          by_cases h3 : 256 ≤ n8 c * 256 + n8 d
          · exact .inr (.inr ⟨c, d, s, rfl, h3, len_cons3 c d s h3⟩)
          · unfold len at h
            rw [if_neg (by simp), show nth (130 :: c :: d :: s) 0 = 130 from rfl, show nth (130 :: c :: d :: s) 1 = c from rfl, show nth (130 :: c :: d :: s) 2 = d from rfl, if_neg (by decide), if_neg (by decide), if_pos rfl, if_neg (by simp), if_pos (by omega)] at h
            simp at h
    · unfold len at h
      rw [if_neg (by simp), show nth (c :: s) 0 = c from rfl, if_neg h1, if_neg h2, if_neg h4] at h
      simp at h
/-- An item at the head. -/
theorem next_head (x : UInt8) (r : List UInt8) (N K : Nat) (hx : ¬ x &&& 31 = 31) (hl : len r = (N, K, 0)) (hN : N ≤ r.length - K) : next (x :: r) 0 = ⟨x, (r.drop K).take N, 0, 1 + K + N, 0⟩ := by
  unfold next
  have e1 : (x :: r).drop ((0 : Int).toNat + 1) = r := rfl
  rw [if_neg (by simp <;> omega), e1, hl, show nth (x :: r) (0 : Int).toNat = x from rfl, if_neg hx, if_neg (by simp), if_neg (by simp; omega)]
  have e2 : (x :: r).drop ((0 : Int).toNat + 1 + K) = r.drop K := by
    rw [show (0 : Int).toNat + 1 + K = K + 1 by simp; omega, List.drop_succ_cons]
  simp only [e2]
theorem next_short (x : UInt8) (r : List UInt8) (N K : Nat) (hx : ¬ x &&& 31 = 31) (hl : len r = (N, K, 0)) (hN : r.length - K < N) : (next (x :: r) 0).err = 141 := by
  unfold next
  have e1 : (x :: r).drop ((0 : Int).toNat + 1) = r := rfl
  rw [if_neg (by simp <;> omega), e1, hl, show nth (x :: r) (0 : Int).toNat = x from rfl, if_neg hx, if_neg (by simp), if_pos (by simp; omega)]
  rfl
/-- What is read is written again. -/
theorem next_put (b : List UInt8) (h : (next b 0).err = 0) : (next b 0).len ≤ b.length ∧ put (next b 0).tag (next b 0).body = b.take (next b 0).len := by
  cases b with
  | nil => unfold next at h; rw [if_pos (.inr (by simp))] at h; simp [none_] at h
  | cons x r =>
    by_cases hx : x &&& 31 = 31
    · unfold next at h
      rw [if_neg (by simp <;> omega), show nth (x :: r) (0 : Int).toNat = x from rfl, if_pos hx] at h
      simp [none_] at h
    by_cases hl : (len r).2.2 = 0
    · obtain ⟨N, K, hNK⟩ : ∃ N K, len r = (N, K, 0) := ⟨(len r).1, (len r).2.1, by rw [← hl]⟩
      by_cases hN : N ≤ r.length - K
      · rw [next_head x r N K hx hNK hN]
        have hno : ∀ m : List UInt8, m.length ≤ 65535 → ¬ (x &&& 31 = 31 ∨ 65535 < m.length) := fun m hm h => h.elim hx (by omega)
        rcases len_forms r hl with ⟨c, s, rfl, hc, e⟩ | ⟨c, s, rfl, hc, e⟩ | ⟨c, d, s, rfl, hc, e⟩
        · rw [e] at hNK
          simp only [Prod.mk.injEq] at hNK
          obtain ⟨rfl, rfl, -⟩ := hNK
          have hc' := (lt128 c).1 hc
          have hbl : (((c :: s).drop 1).take (n8 c)).length = n8 c := by simp at hN ⊢; omega
          refine ⟨by simp at hN ⊢; omega, ?_⟩
          dsimp only
          unfold put
          rw [if_neg (hno _ (by omega)), hbl, if_neg (by omega), if_neg (by omega), byteOf_nat, show 1 + 1 + n8 c = n8 c + 1 + 1 by omega, List.take_succ_cons, List.take_succ_cons]
          rfl
        · rw [e] at hNK
          simp only [Prod.mk.injEq] at hNK
          obtain ⟨rfl, rfl, -⟩ := hNK
          have hc' := n8_lt c
          have hbl : (((129 :: c :: s).drop 2).take (n8 c)).length = n8 c := by simp at hN ⊢; omega
          refine ⟨by simp at hN ⊢; omega, ?_⟩
          dsimp only
          unfold put
          rw [if_neg (hno _ (by omega)), hbl, if_neg (by omega), if_pos (by omega), byteOf_nat, show 1 + 2 + n8 c = n8 c + 1 + 1 + 1 by omega, List.take_succ_cons, List.take_succ_cons, List.take_succ_cons]
          rfl
        · rw [e] at hNK
          simp only [Prod.mk.injEq] at hNK
          obtain ⟨rfl, rfl, -⟩ := hNK
          have hc' := n8_lt c
          have hd' := n8_lt d
          have hbl : (((130 :: c :: d :: s).drop 3).take (n8 c * 256 + n8 d)).length = n8 c * 256 + n8 d := by simp at hN ⊢; omega
          refine ⟨by simp at hN ⊢; omega, ?_⟩
          dsimp only
          unfold put
          rw [if_neg (hno _ (by omega)), hbl, if_pos (by omega), byteOf_hi, byteOf_lo, show 1 + 3 + (n8 c * 256 + n8 d) = (n8 c * 256 + n8 d) + 1 + 1 + 1 + 1 by omega, List.take_succ_cons, List.take_succ_cons, List.take_succ_cons, List.take_succ_cons]
          rfl
      · rw [next_short x r N K hx hNK (by omega)] at h; omega
    · unfold next at h
      have e1 : (x :: r).drop ((0 : Int).toNat + 1) = r := rfl
      rw [if_neg (by simp <;> omega), e1, show nth (x :: r) (0 : Int).toNat = x from rfl, if_neg hx, if_pos hl] at h
      exact absurd h hl
theorem nextBody (b : List UInt8) (a : Int) : (next b a).body.length ≤ b.length := by
  unfold next
  split
  · simp [none_]
  split
  · simp [none_]
  split
  · simp [none_]
  split
  · simp [none_]
  · simp only [List.length_take, List.length_drop]; omega
theorem put_no (tag : UInt8) (body : List UInt8) (h : tag &&& 31 = 31 ∨ 65535 < body.length) : put tag body = [] := by unfold put; rw [if_pos h]
/-- The length that is written. -/
def lenOf (n : Nat) : List UInt8 := if 255 < n then [130, byteOf ((n : Int) / 256), byteOf n] else if 127 < n then [129, byteOf n] else [byteOf n]
theorem put_is (tag : UInt8) (body : List UInt8) (h : ¬ (tag &&& 31 = 31 ∨ 65535 < body.length)) : put tag body = tag :: (lenOf body.length ++ body) := by
  unfold put lenOf
  rw [if_neg h]
  split
  · rfl
  · split <;> rfl
theorem len_lenOf (n : Nat) (hn : n ≤ 65535) (s : List UInt8) : len (lenOf n ++ s) = (n, (lenOf n).length, 0) := by
  unfold lenOf
  have e1 := byteOf_n8 (n : Int)
  have e2 := byteOf_n8 ((n : Int) / 256)
  by_cases h1 : 255 < n
  · rw [if_pos h1]
    have e : n8 (byteOf ((n : Int) / 256)) * 256 + n8 (byteOf (n : Int)) = n := by omega
    have h := len_cons3 (byteOf ((n : Int) / 256)) (byteOf (n : Int)) s (by omega)
    rw [e] at h
    exact h
  · rw [if_neg h1]
    have e : n8 (byteOf (n : Int)) = n := by omega
    by_cases h2 : 127 < n
    · rw [if_pos h2]
      have h := len_cons2 (byteOf (n : Int)) s (by omega)
      rw [e] at h
      exact h
    · rw [if_neg h2]
      have h := len_cons1 (byteOf (n : Int)) s ((lt128 _).2 (by omega))
      rw [e] at h
      exact h
/-- What is written is read. -/
theorem put_next (tag : UInt8) (body : List UInt8) (h : ¬ (tag &&& 31 = 31 ∨ 65535 < body.length)) : next (put tag body) 0 = ⟨tag, body, 0, (put tag body).length, 0⟩ := by
  rw [put_is tag body h]
  have hx : ¬ tag &&& 31 = 31 := fun e => h (.inl e)
  have hn : body.length ≤ 65535 := Nat.le_of_not_lt fun e => h (.inr e)
  rw [next_head tag (lenOf body.length ++ body) body.length (lenOf body.length).length hx (len_lenOf _ hn _) (by simp)]
  rw [List.drop_left, List.take_length]
  have e : 1 + (lenOf body.length).length + body.length = (tag :: (lenOf body.length ++ body)).length := by simp; omega
  rw [e]
/-- No shorter bytes are one. -/
theorem put_short (tag : UInt8) (body : List UInt8) (h : ¬ (tag &&& 31 = 31 ∨ 65535 < body.length)) : (next ((put tag body).take ((put tag body).length - 1)) 0).err = 141 := by
  rw [put_is tag body h]
  have hx : ¬ tag &&& 31 = 31 := fun e => h (.inl e)
  have hn : body.length ≤ 65535 := Nat.le_of_not_lt fun e => h (.inr e)
  have hl1 : 0 < (lenOf body.length).length := by unfold lenOf; split <;> (try split) <;> simp
  by_cases h0 : body.length = 0
  · have hb : body = [] := List.length_eq_zero_iff.1 h0
    subst hb
    have e : lenOf 0 = [byteOf 0] := rfl
    simp only [List.length_nil, e]
    have e2 : (tag :: ([byteOf 0] ++ ([] : List UInt8))).take ((tag :: ([byteOf 0] ++ ([] : List UInt8))).length - 1) = [tag] := rfl
    rw [e2]
    unfold next
    have e3 : [tag].drop ((0 : Int).toNat + 1) = [] := rfl
    rw [if_neg (by simp), e3, show nth [tag] (0 : Int).toNat = tag from rfl, if_neg hx]
    rfl
  · have e : (tag :: (lenOf body.length ++ body)).take ((tag :: (lenOf body.length ++ body)).length - 1) = tag :: (lenOf body.length ++ body.take (body.length - 1)) := by
      simp only [List.length_cons, List.length_append]
      rw [show (lenOf body.length).length + body.length + 1 - 1 = ((lenOf body.length).length + (body.length - 1)) + 1 by omega, List.take_succ_cons, List.take_length_add_append]
    rw [e]
    exact next_short tag _ body.length (lenOf body.length).length hx (len_lenOf _ hn _) (by simp; omega)
end Der
theorem nextBody_le (b : List UInt8) : (Der.next b 0).body.length ≤ b.length := Der.nextBody b 0
end Go.Proofs.YthkggeohdclffaaDoor
