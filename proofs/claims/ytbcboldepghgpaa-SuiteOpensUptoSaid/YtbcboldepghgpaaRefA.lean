/-
  The walk of the reference that encrypts a block.
-/
import Derived.Test.YtbcboldepghgpaaAesF
import Derived.Test.YtbcboldepghgpaaJa
set_option linter.unusedVariables false
set_option linter.unusedSimpArgs false
set_option maxRecDepth 100000
namespace Go.Proofs.Ytbcboldepghgpaa
open Go.RowKit
/-- Block g holds a key of the reference: the round keys, how many rounds, the box. -/
structure RefAt (w : World) (g : Nat) (rs : List (List UInt8)) : Prop where
  ex : ∃ cs, Blk w g 119 cs ∧ cs[240]? = some (.int .i64 ((rs.length - 1 : Nat) : Int)) ∧ (∀ x : UInt8, cs[241 + n8 x]? = some (.int .u8 (n8 (nth Aes.sbox (n8 x))))) ∧
    ∀ i, i < rs.length → (rs.getD i []).length = 16 ∧ ∀ j, j < 16 → cs[i * 16 + j]? = some (.int .u8 (n8 (nth (rs.getD i []) j)))
theorem RefAt.below {w w' : World} {g : Nat} {rs : List (List UInt8)} (h : RefAt w g rs) (hb : Below w.heap.size w w') : RefAt w' g rs := by
  obtain ⟨cs, h1, h2⟩ := h.ex
  exact ⟨cs, h1.below hb h1.lt, h2⟩
namespace Aes
def setStep (c q : List UInt8) (k : Nat) (s : List UInt8) : List UInt8 := s.set k (nth c k ^^^ nth q k)
theorem setStep_len (c q s : List UInt8) (k : Nat) : (iter (setStep c q) k s).length = s.length := iter_keeps _ _ (fun k s => by simp [setStep]) k s
theorem setStep_nth (c q s : List UInt8) (k i : Nat) (hk : k ≤ s.length) : nth (iter (setStep c q) k s) i = if i < k then nth c i ^^^ nth q i else nth s i := by
  induction k with
  | zero => rw [iter, if_neg (by omega)]
  | succ k ih =>
    rw [iter, setStep, nth_set _ _ _ _ (by rw [setStep_len]; omega), ih (by omega)]
    by_cases h : i = k
    · subst h; rw [if_pos rfl, if_pos (by omega)]
    · rw [if_neg h]
      by_cases h2 : i < k
      · rw [if_pos h2, if_pos (by omega)]
      · rw [if_neg h2, if_neg (by omega)]
theorem xorStep_nth (q s : List UInt8) (k i : Nat) (hk : k ≤ s.length) : nth (iter (xorStep q) k s) i = if i < k then nth s i ^^^ nth q i else nth s i := by
  induction k generalizing i with
  | zero => rw [iter, if_neg (by omega)]
  | succ k ih =>
    rw [iter, xorStep, nth_set _ _ _ _ (by rw [xorStep_len]; omega), ih _ (by omega), ih _ (by omega)]
    by_cases h : i = k
    · subst h; rw [if_pos rfl, if_neg (by omega), if_pos (by omega)]
    · rw [if_neg h]
      by_cases h2 : i < k
      · rw [if_pos h2, if_pos (by omega)]
      · rw [if_neg h2, if_neg (by omega)]
theorem set_all (c q s : List UInt8) (hs : s.length = 16) (hc : c.length = 16) : iter (setStep c q) 16 s = xor16 c q := by
  rw [xor16_eq]
  apply nth_ext
  · rw [setStep_len, xorStep_len, hs, hc]
  · intro i hi
    rw [setStep_len, hs] at hi
    rw [setStep_nth _ _ _ _ _ (by omega), xorStep_nth _ _ _ _ (by omega), if_pos hi, if_pos hi]
-- the columns mixed, as the reference does it
def refRow (a : List UInt8) (j r : Nat) (c : List UInt8) : List UInt8 :=
  c.set (4 * j + r) (dbl (nth a r) ^^^ dbl (nth a ((r + 1) % 4)) ^^^ nth a ((r + 1) % 4) ^^^ nth a ((r + 2) % 4) ^^^ nth a ((r + 3) % 4))
def colAt (j : Nat) (c : List UInt8) : List UInt8 := [nth c (4 * j), nth c (4 * j + 1), nth c (4 * j + 2), nth c (4 * j + 3)]
def colStep (c : List UInt8) (j r : Nat) (a : List UInt8) : List UInt8 := a.set r (nth c (4 * j + r))
theorem colStep_len (c a : List UInt8) (j k : Nat) : (iter (colStep c j) k a).length = a.length := iter_keeps _ _ (fun k s => by simp [colStep]) k a
theorem colAt_all (c : List UInt8) (j : Nat) : iter (colStep c j) 4 (List.replicate 4 0) = colAt j c := rfl
theorem colAt_len (j : Nat) (c : List UInt8) : (colAt j c).length = 4 := rfl
theorem refRow_len (a c : List UInt8) (j k : Nat) : (iter (refRow a j) k c).length = c.length := iter_keeps _ _ (fun k s => by simp [refRow]) k c
theorem dbl_nat : ∀ i, i < 256 → dbl (UInt8.ofNat i) = twice (UInt8.ofNat i) := by decide +kernel
theorem dbl_twice (a : UInt8) : dbl a = twice a := all256 (P := fun a => dbl a = twice a) dbl_nat a
theorem mix_byte0 (a b c d : UInt8) : a ^^^ ((a ^^^ b ^^^ c ^^^ d) ^^^ twice (a ^^^ b)) = dbl a ^^^ dbl b ^^^ b ^^^ c ^^^ d := by
  rw [dbl_twice, dbl_twice, twice_xor]
  have h : ∀ a b c d v w : UInt8, a ^^^ ((a ^^^ b ^^^ c ^^^ d) ^^^ (v ^^^ w)) = v ^^^ w ^^^ b ^^^ c ^^^ d := by
    intro a b c d v w
    apply UInt8.eq_of_toBitVec_eq
    apply BitVec.eq_of_getLsbD_eq
    intro i hi
    simp only [UInt8.toBitVec_xor, BitVec.getLsbD_xor]
    cases a.toBitVec.getLsbD i <;> cases b.toBitVec.getLsbD i <;> cases c.toBitVec.getLsbD i <;> cases d.toBitVec.getLsbD i <;> cases v.toBitVec.getLsbD i <;> cases w.toBitVec.getLsbD i <;> rfl
  exact h a b c d _ _
theorem mix_byte1 (a b c d : UInt8) : b ^^^ ((a ^^^ b ^^^ c ^^^ d) ^^^ twice (b ^^^ c)) = dbl b ^^^ dbl c ^^^ c ^^^ d ^^^ a := by
  rw [dbl_twice, dbl_twice, twice_xor]
  have h : ∀ a b c d v w : UInt8, b ^^^ ((a ^^^ b ^^^ c ^^^ d) ^^^ (v ^^^ w)) = v ^^^ w ^^^ c ^^^ d ^^^ a := by
    intro a b c d v w
    apply UInt8.eq_of_toBitVec_eq
    apply BitVec.eq_of_getLsbD_eq
    intro i hi
    simp only [UInt8.toBitVec_xor, BitVec.getLsbD_xor]
    cases a.toBitVec.getLsbD i <;> cases b.toBitVec.getLsbD i <;> cases c.toBitVec.getLsbD i <;> cases d.toBitVec.getLsbD i <;> cases v.toBitVec.getLsbD i <;> cases w.toBitVec.getLsbD i <;> rfl
  exact h a b c d _ _
theorem mix_byte2 (a b c d : UInt8) : c ^^^ ((a ^^^ b ^^^ c ^^^ d) ^^^ twice (c ^^^ d)) = dbl c ^^^ dbl d ^^^ d ^^^ a ^^^ b := by
  rw [dbl_twice, dbl_twice, twice_xor]
  have h : ∀ a b c d v w : UInt8, c ^^^ ((a ^^^ b ^^^ c ^^^ d) ^^^ (v ^^^ w)) = v ^^^ w ^^^ d ^^^ a ^^^ b := by
    intro a b c d v w
    apply UInt8.eq_of_toBitVec_eq
    apply BitVec.eq_of_getLsbD_eq
    intro i hi
    simp only [UInt8.toBitVec_xor, BitVec.getLsbD_xor]
    cases a.toBitVec.getLsbD i <;> cases b.toBitVec.getLsbD i <;> cases c.toBitVec.getLsbD i <;> cases d.toBitVec.getLsbD i <;> cases v.toBitVec.getLsbD i <;> cases w.toBitVec.getLsbD i <;> rfl
  exact h a b c d _ _
theorem mix_byte3 (a b c d : UInt8) : d ^^^ ((a ^^^ b ^^^ c ^^^ d) ^^^ twice (d ^^^ a)) = dbl d ^^^ dbl a ^^^ a ^^^ b ^^^ c := by
  rw [dbl_twice, dbl_twice, twice_xor]
  have h : ∀ a b c d v w : UInt8, d ^^^ ((a ^^^ b ^^^ c ^^^ d) ^^^ (v ^^^ w)) = v ^^^ w ^^^ a ^^^ b ^^^ c := by
    intro a b c d v w
    apply UInt8.eq_of_toBitVec_eq
    apply BitVec.eq_of_getLsbD_eq
    intro i hi
    simp only [UInt8.toBitVec_xor, BitVec.getLsbD_xor]
    cases a.toBitVec.getLsbD i <;> cases b.toBitVec.getLsbD i <;> cases c.toBitVec.getLsbD i <;> cases d.toBitVec.getLsbD i <;> cases v.toBitVec.getLsbD i <;> cases w.toBitVec.getLsbD i <;> rfl
  exact h a b c d _ _
theorem mixCol_at0 (b0 b1 b2 b3 b4 b5 b6 b7 b8 b9 b10 b11 b12 b13 b14 b15 : UInt8) : mixCol 0 [b0, b1, b2, b3, b4, b5, b6, b7, b8, b9, b10, b11, b12, b13, b14, b15] = [b0 ^^^ ((b0 ^^^ b1 ^^^ b2 ^^^ b3) ^^^ twice (b0 ^^^ b1)), b1 ^^^ ((b0 ^^^ b1 ^^^ b2 ^^^ b3) ^^^ twice (b1 ^^^ b2)), b2 ^^^ ((b0 ^^^ b1 ^^^ b2 ^^^ b3) ^^^ twice (b2 ^^^ b3)), b3 ^^^ ((b0 ^^^ b1 ^^^ b2 ^^^ b3) ^^^ twice (b3 ^^^ b0)), b4, b5, b6, b7, b8, b9, b10, b11, b12, b13, b14, b15] := rfl
theorem refCol_at0 (b0 b1 b2 b3 b4 b5 b6 b7 b8 b9 b10 b11 b12 b13 b14 b15 : UInt8) : iter (refRow (colAt 0 [b0, b1, b2, b3, b4, b5, b6, b7, b8, b9, b10, b11, b12, b13, b14, b15]) 0) 4 [b0, b1, b2, b3, b4, b5, b6, b7, b8, b9, b10, b11, b12, b13, b14, b15] = [dbl b0 ^^^ dbl b1 ^^^ b1 ^^^ b2 ^^^ b3, dbl b1 ^^^ dbl b2 ^^^ b2 ^^^ b3 ^^^ b0, dbl b2 ^^^ dbl b3 ^^^ b3 ^^^ b0 ^^^ b1, dbl b3 ^^^ dbl b0 ^^^ b0 ^^^ b1 ^^^ b2, b4, b5, b6, b7, b8, b9, b10, b11, b12, b13, b14, b15] := rfl
theorem mixCol_at1 (b0 b1 b2 b3 b4 b5 b6 b7 b8 b9 b10 b11 b12 b13 b14 b15 : UInt8) : mixCol 1 [b0, b1, b2, b3, b4, b5, b6, b7, b8, b9, b10, b11, b12, b13, b14, b15] = [b0, b1, b2, b3, b4 ^^^ ((b4 ^^^ b5 ^^^ b6 ^^^ b7) ^^^ twice (b4 ^^^ b5)), b5 ^^^ ((b4 ^^^ b5 ^^^ b6 ^^^ b7) ^^^ twice (b5 ^^^ b6)), b6 ^^^ ((b4 ^^^ b5 ^^^ b6 ^^^ b7) ^^^ twice (b6 ^^^ b7)), b7 ^^^ ((b4 ^^^ b5 ^^^ b6 ^^^ b7) ^^^ twice (b7 ^^^ b4)), b8, b9, b10, b11, b12, b13, b14, b15] := rfl
theorem refCol_at1 (b0 b1 b2 b3 b4 b5 b6 b7 b8 b9 b10 b11 b12 b13 b14 b15 : UInt8) : iter (refRow (colAt 1 [b0, b1, b2, b3, b4, b5, b6, b7, b8, b9, b10, b11, b12, b13, b14, b15]) 1) 4 [b0, b1, b2, b3, b4, b5, b6, b7, b8, b9, b10, b11, b12, b13, b14, b15] = [b0, b1, b2, b3, dbl b4 ^^^ dbl b5 ^^^ b5 ^^^ b6 ^^^ b7, dbl b5 ^^^ dbl b6 ^^^ b6 ^^^ b7 ^^^ b4, dbl b6 ^^^ dbl b7 ^^^ b7 ^^^ b4 ^^^ b5, dbl b7 ^^^ dbl b4 ^^^ b4 ^^^ b5 ^^^ b6, b8, b9, b10, b11, b12, b13, b14, b15] := rfl
theorem mixCol_at2 (b0 b1 b2 b3 b4 b5 b6 b7 b8 b9 b10 b11 b12 b13 b14 b15 : UInt8) : mixCol 2 [b0, b1, b2, b3, b4, b5, b6, b7, b8, b9, b10, b11, b12, b13, b14, b15] = [b0, b1, b2, b3, b4, b5, b6, b7, b8 ^^^ ((b8 ^^^ b9 ^^^ b10 ^^^ b11) ^^^ twice (b8 ^^^ b9)), b9 ^^^ ((b8 ^^^ b9 ^^^ b10 ^^^ b11) ^^^ twice (b9 ^^^ b10)), b10 ^^^ ((b8 ^^^ b9 ^^^ b10 ^^^ b11) ^^^ twice (b10 ^^^ b11)), b11 ^^^ ((b8 ^^^ b9 ^^^ b10 ^^^ b11) ^^^ twice (b11 ^^^ b8)), b12, b13, b14, b15] := rfl
theorem refCol_at2 (b0 b1 b2 b3 b4 b5 b6 b7 b8 b9 b10 b11 b12 b13 b14 b15 : UInt8) : iter (refRow (colAt 2 [b0, b1, b2, b3, b4, b5, b6, b7, b8, b9, b10, b11, b12, b13, b14, b15]) 2) 4 [b0, b1, b2, b3, b4, b5, b6, b7, b8, b9, b10, b11, b12, b13, b14, b15] = [b0, b1, b2, b3, b4, b5, b6, b7, dbl b8 ^^^ dbl b9 ^^^ b9 ^^^ b10 ^^^ b11, dbl b9 ^^^ dbl b10 ^^^ b10 ^^^ b11 ^^^ b8, dbl b10 ^^^ dbl b11 ^^^ b11 ^^^ b8 ^^^ b9, dbl b11 ^^^ dbl b8 ^^^ b8 ^^^ b9 ^^^ b10, b12, b13, b14, b15] := rfl
theorem mixCol_at3 (b0 b1 b2 b3 b4 b5 b6 b7 b8 b9 b10 b11 b12 b13 b14 b15 : UInt8) : mixCol 3 [b0, b1, b2, b3, b4, b5, b6, b7, b8, b9, b10, b11, b12, b13, b14, b15] = [b0, b1, b2, b3, b4, b5, b6, b7, b8, b9, b10, b11, b12 ^^^ ((b12 ^^^ b13 ^^^ b14 ^^^ b15) ^^^ twice (b12 ^^^ b13)), b13 ^^^ ((b12 ^^^ b13 ^^^ b14 ^^^ b15) ^^^ twice (b13 ^^^ b14)), b14 ^^^ ((b12 ^^^ b13 ^^^ b14 ^^^ b15) ^^^ twice (b14 ^^^ b15)), b15 ^^^ ((b12 ^^^ b13 ^^^ b14 ^^^ b15) ^^^ twice (b15 ^^^ b12))] := rfl
theorem refCol_at3 (b0 b1 b2 b3 b4 b5 b6 b7 b8 b9 b10 b11 b12 b13 b14 b15 : UInt8) : iter (refRow (colAt 3 [b0, b1, b2, b3, b4, b5, b6, b7, b8, b9, b10, b11, b12, b13, b14, b15]) 3) 4 [b0, b1, b2, b3, b4, b5, b6, b7, b8, b9, b10, b11, b12, b13, b14, b15] = [b0, b1, b2, b3, b4, b5, b6, b7, b8, b9, b10, b11, dbl b12 ^^^ dbl b13 ^^^ b13 ^^^ b14 ^^^ b15, dbl b13 ^^^ dbl b14 ^^^ b14 ^^^ b15 ^^^ b12, dbl b14 ^^^ dbl b15 ^^^ b15 ^^^ b12 ^^^ b13, dbl b15 ^^^ dbl b12 ^^^ b12 ^^^ b13 ^^^ b14] := rfl
/-- Both ways of mixing a column are one. -/
theorem refCol_mix (j : Nat) (hj : j < 4) (c : List UInt8) (hc : c.length = 16) : iter (refRow (colAt j c) j) 4 c = mixCol j c := by
  obtain ⟨b0, b1, b2, b3, b4, b5, b6, b7, b8, b9, b10, b11, b12, b13, b14, b15, rfl⟩ := list16 c hc
  rcases (show j = 0 ∨ j = 1 ∨ j = 2 ∨ j = 3 by omega) with rfl | rfl | rfl | rfl
  · rw [mixCol_at0, refCol_at0, mix_byte0, mix_byte1, mix_byte2, mix_byte3]
  · rw [mixCol_at1, refCol_at1, mix_byte0, mix_byte1, mix_byte2, mix_byte3]
  · rw [mixCol_at2, refCol_at2, mix_byte0, mix_byte1, mix_byte2, mix_byte3]
  · rw [mixCol_at3, refCol_at3, mix_byte0, mix_byte1, mix_byte2, mix_byte3]
end Aes


set_option maxHeartbeats 4000000 in
set_option maxRecDepth 100000 in
theorem ref_encrypt_any (g : Nat) (rs : List (List UInt8)) (b : List UInt8) (hb : b.length = 16) (hrs : 1 ≤ rs.length) (hrl : rs.length ≤ 15) (w : World) (hk : RefAt w g rs) :
    Calls Try.prog 69 #[.pointer (some ⟨g, 0, none⟩), .agg (arr b)] w fun e w' => e = .returned (.agg (arr (Aes.enc rs b))) ∧ Below w.heap.size w w' := by
  have Hb := hd hb
  clear hb
  obtain ⟨cs, k1, k2, k3, k4⟩ := hk.ex
  obtain ⟨n, Hn⟩ : ∃ n, Hd (rs.length = n + 1) := ⟨rs.length - 1, ⟨by omega⟩⟩
  have hg := k1.lt
  have hn : n ≤ 14 := by have := Hn.out; omega
  rw [Hn.out, Nat.add_sub_cancel] at k2
  have K2 := hd k2
  have K3 := hd k3
  have K4 := hd k4
  clear k2 k3 k4 hk hrs hrl
  obtain ⟨q0, Hq0⟩ : ∃ q, Hd (rs.getD 0 [] = q) := ⟨_, ⟨rfl⟩⟩
  have Hq := hd (K4.out 0 (by rw [Hn.out]; omega))
  go_enter Try.func69, Try.ntmps69
  go_wp2
  refine wp_name (fun wo => Blk wo w.heap.size 104 (arr b) ∧ Blk wo (w.heap.size + 1) 104 (arr (List.replicate 16 0)) ∧ Below w.heap.size w wo) ⟨(Blk.nu (by simp)).alloc _, Blk.nu (by simp), ((Below.refl _ _).alloc (by simp) _).alloc (by simp) _⟩ ?_
  rintro wo ⟨b1, b2, hB⟩
  go_loopw [5] (fun i wi => ∃ k : Nat, k ≤ 16 ∧ i = .int .i64 (k : Int) ∧ Blk wi w.heap.size 104 (arr (iter (Aes.xorStep q0) k b)) ∧ Blk wi (w.heap.size + 1) 104 (arr (List.replicate 16 0)) ∧ Below w.heap.size w wi) (fun i _ => 16 - (intOf i).toNat)
  case atStart => exact ⟨0, by omega, rfl, b1, b2, hB⟩
  case round =>
    clear b1 b2 hB
    obtain ⟨k, hk, rfl, b1, b2, hB⟩ := hrel
    obtain ⟨t, Ht⟩ : ∃ t, Hd (iter (Aes.xorStep q0) k b = t) := ⟨_, ⟨rfl⟩⟩
    rw [Ht.out] at b1
    have Htl := hd (show t.length = 16 by rw [← Ht.out, Aes.xorStep_len, Hb.out])
    by_cases hlt : k < 16
    · have tk : (k : Int) < 16 := by omega
      have c1 := b1.arr_cell k (by rw [Htl.out]; exact hlt)
      have c2 : wr.cell? ⟨g, k, none⟩ = some (.int .u8 (n8 (nth q0 k))) := by
        have h := Hq.out.2 k hlt
        rw [Nat.zero_mul, Nat.zero_add, Hq0.out] at h
        exact ((hB.cell (p := ⟨g, k, none⟩) hg).trans (k1.cell _)).trans h
      have f1 := b1.frozen k
      go_wp2
      go_still_tail 13, (by kernel_rfl)
      change wpList _ _ _ _ _ wr.drew
      go_wp2
      go_roundw
      case rel => exact ⟨k + 1, by omega, by go_num, by rw [iter, Ht.out, Aes.xorStep]; exact b1.drew.arr_set _ _, b2.drew.far (by simp) _, hB.drew.setCell (by simp) _⟩
      case measure => simp [intOf]; omega
    · have e16 : k = 16 := by omega
      subst e16
      have H0 := hd (show Aes.encRun rs b 0 = t by rw [Aes.encRun_zero, Aes.xor16_eq, Hq0.out]; exact Ht.out)
      have tk : ¬ ((16 : Nat) : Int) < 16 := by omega
      go_wp2
      go_loopw [6] (fun i wi => ∃ k : Nat, k ≤ n ∧ i = .int .i64 ((k : Int) + 1) ∧ Blk wi w.heap.size 104 (arr (Aes.encRun rs b k)) ∧ Blk wi (w.heap.size + 1) 104 (arr (List.replicate 16 0)) ∧ Below w.heap.size w wi) (fun i _ => n + 1 - (intOf i).toNat)
      case atStart => exact ⟨0, by omega, rfl, by rw [H0.out]; exact b1, b2, hB⟩
      case round =>
        clear b1 b2 hB
        obtain ⟨k, hkn, rfl, b1, b2, hB⟩ := hrel
        obtain ⟨s, Hs⟩ : ∃ s, Hd (Aes.encRun rs b k = s) := ⟨_, ⟨rfl⟩⟩
        rw [Hs.out] at b1
        have Hl := hd (show s.length = 16 by rw [← Hs.out, Aes.encRun_len _ _ Hb.out])
        have cn : wr.cell? ⟨g, 240, none⟩ = some (.int .i64 (n : Int)) := ((hB.cell (p := ⟨g, 240, none⟩) hg).trans (k1.cell _)).trans K2.out
        by_cases hlt : k < n
        · have t1 : (k : Int) + 1 ≤ (n : Int) := by omega
          have hsz := b2.lt
          go_wp2
          refine wp_name (fun wo => Blk wo w.heap.size 104 (arr s) ∧ Blk wo (w.heap.size + 1) 104 (arr (List.replicate 16 0)) ∧ Below w.heap.size w wo ∧ Blk wo wr.heap.size 104 (arr (List.replicate 16 0))) ⟨b1.alloc _, b2.alloc _, hB.alloc (by omega) _, Blk.nu rfl⟩ ?_
          rintro wo ⟨c1, c2, hC, c3⟩
          generalize wr.heap.size = z at *
          clear b1 b2 hB cn
          go_loopw [8] (fun i wi => ∃ j : Nat, j ≤ 4 ∧ i = .int .i64 (j : Int) ∧ Blk wi w.heap.size 104 (arr s) ∧ Blk wi (w.heap.size + 1) 104 (arr (List.replicate 16 0)) ∧ Below w.heap.size w wi ∧
            Blk wi z 104 (arr (iter (Aes.subStep s) (4 * j) (List.replicate 16 0)))) (fun i _ => 4 - (intOf i).toNat)
          case atStart => exact ⟨0, by omega, rfl, c1, c2, hC, c3⟩
          case round =>
            clear c1 c2 c3 hC
            obtain ⟨j, hj, rfl, b1, b2, hB, b3⟩ := hrel
            by_cases hj4 : j < 4
            · have tj : (j : Int) < 4 := by omega
              go_wp2
              go_loopw [9] (fun i wi => ∃ r : Nat, r ≤ 4 ∧ i = .int .i64 (r : Int) ∧ Blk wi w.heap.size 104 (arr s) ∧ Blk wi (w.heap.size + 1) 104 (arr (List.replicate 16 0)) ∧ Below w.heap.size w wi ∧
                Blk wi z 104 (arr (iter (Aes.subStep s) (4 * j + r) (List.replicate 16 0)))) (fun i _ => 4 - (intOf i).toNat)
              case atStart => exact ⟨0, by omega, rfl, b1, b2, hB, b3⟩
              case round =>
                clear b1 b2 b3 hB
                obtain ⟨r, hr, rfl, b1, b2, hB, b3⟩ := hrel
                by_cases hr4 : r < 4
                · have tr : (r : Int) < 4 := by omega
                  obtain ⟨t, Ht⟩ : ∃ t, Hd (iter (Aes.subStep s) (4 * j + r) (List.replicate 16 0) = t) := ⟨_, ⟨rfl⟩⟩
                  rw [Ht.out] at b3
                  have Htl := hd (show t.length = 16 by rw [← Ht.out, Aes.subStep_len]; exact List.length_replicate)
                  obtain ⟨p, Hp⟩ : ∃ p, Hd ((j + r) % 4 = p) := ⟨_, ⟨rfl⟩⟩
                  have hp : p < 4 := by rw [← Hp.out]; omega
                  obtain ⟨x, Hx⟩ : ∃ x, Hd (nth s (4 * p + r) = x) := ⟨_, ⟨rfl⟩⟩
                  have e1 := b1.arr_cell (4 * p + r) (by rw [Hl.out]; omega)
                  rw [Hx.out] at e1
                  have e2 : wr.cell? ⟨g, 241 + n8 x, none⟩ = some (.int .u8 (n8 (nth Aes.sbox (n8 x)))) := ((hB.cell (p := ⟨g, 241 + n8 x, none⟩) hg).trans (k1.cell _)).trans (K3.out x)
                  have f3 := b3.frozen (4 * j + r)
                  have e3 := b3.arr_cell (4 * j + r) (by rw [Htl.out]; omega)
                  have hx := n8_ilt x
                  have v1 : IntKind.i64.wrap (4 * (j : Int)) = 4 * (j : Int) := IntWalk.i64_in _ (by omega)
                  have v2 : IntKind.i64.wrap (4 * (j : Int) + (r : Int)) = 4 * (j : Int) + (r : Int) := IntWalk.i64_in _ (by omega)
                  have v3 : IntKind.i64.wrap ((j : Int) + (r : Int)) = (j : Int) + (r : Int) := IntWalk.i64_in _ (by omega)
                  have v4 : ((j : Int) + (r : Int)).tmod 4 = (p : Int) := by rw [← Hp.out, Int.tmod_eq_emod_of_nonneg (by omega)]; omega
                  have v5 : IntKind.i64.wrap (p : Int) = (p : Int) := IntWalk.i64_in _ (by omega)
                  have v6 : IntKind.i64.wrap (4 * (p : Int)) = 4 * (p : Int) := IntWalk.i64_in _ (by omega)
                  have v7 : IntKind.i64.wrap (4 * (p : Int) + (r : Int)) = 4 * (p : Int) + (r : Int) := IntWalk.i64_in _ (by omega)
                  have v8 : (4 * (p : Int) + (r : Int)).toNat = 4 * p + r := by omega
                  have v9 : (4 * (j : Int) + (r : Int)).toNat = 4 * j + r := by omega
                  have u1 : 4 * (p : Int) + (r : Int) < 16 := by omega
                  have u2 : 4 * (j : Int) + (r : Int) < 16 := by omega
                  have u3 : 0 ≤ 4 * (p : Int) + (r : Int) := by omega
                  have u4 : 0 ≤ 4 * (j : Int) + (r : Int) := by omega
                  go_wp2
                  go_still_tail 19, (by kernel_rfl)
                  change wpList _ _ _ _ _ wr.drew
                  go_wp2
                  clear v1 v2 v3 v4 v5 v6 v7 v8 v9 u1 u2 u3 u4
                  go_roundw
                  case rel =>
                    have b3' := b3.drew.arr_set (4 * j + r) (nth Aes.sbox (n8 x))
                    refine ⟨r + 1, by omega, by go_num, b1.drew.far (by simp; omega) _, b2.drew.far (by simp; omega) _, hB.drew.setCell (by simp; omega) _, ?_⟩
                    rw [show 4 * j + (r + 1) = (4 * j + r) + 1 by omega, iter, Ht.out, Aes.subStep, show 5 * (4 * j + r) % 16 = 4 * p + r by have := Hp.out; omega, Hx.out]
                    exact b3'
                  case measure => simp [intOf]; omega
                · have e4 : r = 4 := by omega
                  subst e4
                  have tr : ¬ ((4 : Nat) : Int) < 4 := by omega
                  go_wp2
                  go_roundw
                  case rel => exact ⟨j + 1, by omega, by go_num, b1, b2, hB, b3⟩
                  case measure => simp [intOf]; omega
            · have e4 : j = 4 := by omega
              subst e4
              have tj : ¬ ((4 : Nat) : Int) < 4 := by omega
              obtain ⟨t, Ht⟩ : ∃ t, Hd (Aes.sub s = t) := ⟨_, ⟨rfl⟩⟩
              rw [show 4 * 4 = 16 from rfl, ← Aes.sub_eq, Ht.out] at b3
              have Htl := hd (show t.length = 16 by rw [← Ht.out, Aes.sub_len])
              have cn : wr.cell? ⟨g, 240, none⟩ = some (.int .i64 (n : Int)) := ((hB.cell (p := ⟨g, 240, none⟩) hg).trans (k1.cell _)).trans K2.out
              by_cases hlast : k + 1 < n
              · have tl : (k : Int) + 1 < (n : Int) := by omega
                go_wp2
                go_loopw [10] (fun i wi => ∃ j : Nat, j ≤ 4 ∧ i = .int .i64 (j : Int) ∧ Blk wi w.heap.size 104 (arr s) ∧ Blk wi (w.heap.size + 1) 104 (arr (List.replicate 16 0)) ∧ Below w.heap.size w wi ∧
                  Blk wi z 104 (arr (iter Aes.mixCol j t))) (fun i _ => 4 - (intOf i).toNat)
                case atStart => exact ⟨0, by omega, rfl, b1, b2, hB, b3⟩
                case round =>
                  clear b1 b2 b3 hB cn
                  obtain ⟨j, hj, rfl, b1, b2, hB, b3⟩ := hrel
                  obtain ⟨c, Hc⟩ : ∃ c, Hd (iter Aes.mixCol j t = c) := ⟨_, ⟨rfl⟩⟩
                  rw [Hc.out] at b3
                  have Hcl := hd (show c.length = 16 by rw [← Hc.out, Aes.mixCol_len, Htl.out])
                  by_cases hj4 : j < 4
                  · have tj : (j : Int) < 4 := by omega
                    have hz := b3.lt
                    go_wp2
                    refine wp_name (fun wo => Blk wo w.heap.size 104 (arr s) ∧ Blk wo (w.heap.size + 1) 104 (arr (List.replicate 16 0)) ∧ Below w.heap.size w wo ∧ Blk wo z 104 (arr c) ∧ Blk wo wr.heap.size 120 (arr (List.replicate 4 0))) ⟨b1.alloc _, b2.alloc _, hB.alloc (by omega) _, b3.alloc _, Blk.nu rfl⟩ ?_
                    rintro wo ⟨c1, c2, hC, c3, c4⟩
                    clear b1 b2 b3 hB
                    generalize wr.heap.size = y at *
                    go_loopw [12] (fun i wi => ∃ r : Nat, r ≤ 4 ∧ i = .int .i64 (r : Int) ∧ Blk wi w.heap.size 104 (arr s) ∧ Blk wi (w.heap.size + 1) 104 (arr (List.replicate 16 0)) ∧ Below w.heap.size w wi ∧
                      Blk wi z 104 (arr c) ∧ Blk wi y 120 (arr (iter (Aes.colStep c j) r (List.replicate 4 0)))) (fun i _ => 4 - (intOf i).toNat)
                    case atStart => exact ⟨0, by omega, rfl, c1, c2, hC, c3, c4⟩
                    case round =>
                      clear c1 c2 c3 c4 hC
                      obtain ⟨r, hr, rfl, b1, b2, hB, b3, b4⟩ := hrel
                      obtain ⟨a, Ha⟩ : ∃ a, Hd (iter (Aes.colStep c j) r (List.replicate 4 0) = a) := ⟨_, ⟨rfl⟩⟩
                      rw [Ha.out] at b4
                      have Hal := hd (show a.length = 4 by rw [← Ha.out, Aes.colStep_len, List.length_replicate])
                      by_cases hr4 : r < 4
                      · have tr : (r : Int) < 4 := by omega
                        have e1 := b3.arr_cell (4 * j + r) (by rw [Hcl.out]; omega)
                        have f1 := b4.frozen r
                        have e4 := b4.arr_cell r (by rw [Hal.out]; exact hr4)
                        have v1 : IntKind.i64.wrap (4 * (j : Int)) = 4 * (j : Int) := IntWalk.i64_in _ (by omega)
                        have v2 : IntKind.i64.wrap (4 * (j : Int) + (r : Int)) = 4 * (j : Int) + (r : Int) := IntWalk.i64_in _ (by omega)
                        have v3 : (4 * (j : Int) + (r : Int)).toNat = 4 * j + r := by omega
                        have u1 : 4 * (j : Int) + (r : Int) < 16 := by omega
                        have u2 : 0 ≤ 4 * (j : Int) + (r : Int) := by omega
                        have hyz := b4.ne_ b3 (by decide)
                        have hy0 := b4.ne_ b1 (by decide)
                        have hy1 := b4.ne_ b2 (by decide)
                        go_wp2
                        clear v1 v2 v3 u1 u2
                        go_roundw
                        case rel => exact ⟨r + 1, by omega, by go_num, b1.far (by simp; omega) _, b2.far (by simp; omega) _, hB.setCell (by simp; omega) _, b3.far (by simp; omega) _, by rw [iter, Ha.out, Aes.colStep]; exact b4.arr_set _ _⟩
                        case measure => simp [intOf]; omega
                      · have e4 : r = 4 := by omega
                        subst e4
                        have tr : ¬ ((4 : Nat) : Int) < 4 := by omega
                        have Hac := hd (show Aes.colAt j c = a by rw [← Aes.colAt_all]; exact Ha.out)
                        go_wp2
                        go_loopw [13] (fun i wi => ∃ r : Nat, r ≤ 4 ∧ i = .int .i64 (r : Int) ∧ Blk wi w.heap.size 104 (arr s) ∧ Blk wi (w.heap.size + 1) 104 (arr (List.replicate 16 0)) ∧ Below w.heap.size w wi ∧
                          Blk wi z 104 (arr (iter (Aes.refRow a j) r c)) ∧ Blk wi y 120 (arr a)) (fun i _ => 4 - (intOf i).toNat)
                        case atStart => exact ⟨0, by omega, rfl, b1, b2, hB, b3, b4⟩
                        case round =>
                          clear b1 b2 b3 b4 hB
                          obtain ⟨r, hr, rfl, b1, b2, hB, b3, b4⟩ := hrel
                          obtain ⟨d, Hd1⟩ : ∃ d, Hd (iter (Aes.refRow a j) r c = d) := ⟨_, ⟨rfl⟩⟩
                          rw [Hd1.out] at b3
                          have Hdl := hd (show d.length = 16 by rw [← Hd1.out, Aes.refRow_len, Hcl.out])
                          by_cases hr4 : r < 4
                          · have tr : (r : Int) < 4 := by omega
                            obtain ⟨p1, Hp1⟩ : ∃ p, Hd ((r + 1) % 4 = p) := ⟨_, ⟨rfl⟩⟩
                            obtain ⟨p2, Hp2⟩ : ∃ p, Hd ((r + 2) % 4 = p) := ⟨_, ⟨rfl⟩⟩
                            obtain ⟨p3, Hp3⟩ : ∃ p, Hd ((r + 3) % 4 = p) := ⟨_, ⟨rfl⟩⟩
                            have hp1 : p1 < 4 := by rw [← Hp1.out]; omega
                            have hp2 : p2 < 4 := by rw [← Hp2.out]; omega
                            have hp3 : p3 < 4 := by rw [← Hp3.out]; omega
                            have e0 := b4.arr_cell r (by rw [Hal.out]; exact hr4)
                            have e1 := b4.arr_cell p1 (by rw [Hal.out]; exact hp1)
                            have e2 := b4.arr_cell p2 (by rw [Hal.out]; exact hp2)
                            have e3 := b4.arr_cell p3 (by rw [Hal.out]; exact hp3)
                            have e5 := b3.arr_cell (4 * j + r) (by rw [Hdl.out]; omega)
                            have f5 := b3.frozen (4 * j + r)
                            obtain ⟨x0, Hx0⟩ : ∃ x, Hd (nth a r = x) := ⟨_, ⟨rfl⟩⟩
                            obtain ⟨x1, Hx1⟩ : ∃ x, Hd (nth a p1 = x) := ⟨_, ⟨rfl⟩⟩
                            obtain ⟨x2, Hx2⟩ : ∃ x, Hd (nth a p2 = x) := ⟨_, ⟨rfl⟩⟩
                            obtain ⟨x3, Hx3⟩ : ∃ x, Hd (nth a p3 = x) := ⟨_, ⟨rfl⟩⟩
                            rw [Hx0.out] at e0
                            rw [Hx1.out] at e1
                            rw [Hx2.out] at e2
                            rw [Hx3.out] at e3
                            have v1 : IntKind.i64.wrap (4 * (j : Int)) = 4 * (j : Int) := IntWalk.i64_in _ (by omega)
                            have v2 : IntKind.i64.wrap (4 * (j : Int) + (r : Int)) = 4 * (j : Int) + (r : Int) := IntWalk.i64_in _ (by omega)
                            have v3 : (4 * (j : Int) + (r : Int)).toNat = 4 * j + r := by omega
                            have v4 : IntKind.i64.wrap ((r : Int) + 1) = (r : Int) + 1 := IntWalk.i64_in _ (by omega)
                            have v5 : IntKind.i64.wrap ((r : Int) + 2) = (r : Int) + 2 := IntWalk.i64_in _ (by omega)
                            have v6 : IntKind.i64.wrap ((r : Int) + 3) = (r : Int) + 3 := IntWalk.i64_in _ (by omega)
                            have m1 : ((r : Int) + 1).tmod 4 = (p1 : Int) := by rw [← Hp1.out, Int.tmod_eq_emod_of_nonneg (by omega)]; omega
                            have m2 : ((r : Int) + 2).tmod 4 = (p2 : Int) := by rw [← Hp2.out, Int.tmod_eq_emod_of_nonneg (by omega)]; omega
                            have m3 : ((r : Int) + 3).tmod 4 = (p3 : Int) := by rw [← Hp3.out, Int.tmod_eq_emod_of_nonneg (by omega)]; omega
                            have n1 : IntKind.i64.wrap (p1 : Int) = (p1 : Int) := IntWalk.i64_in _ (by omega)
                            have n2 : IntKind.i64.wrap (p2 : Int) = (p2 : Int) := IntWalk.i64_in _ (by omega)
                            have n3 : IntKind.i64.wrap (p3 : Int) = (p3 : Int) := IntWalk.i64_in _ (by omega)
                            have h1 : (p1 : Int) < 4 := by omega
                            have h2 : (p2 : Int) < 4 := by omega
                            have h3 : (p3 : Int) < 4 := by omega
                            have u1 : 4 * (j : Int) + (r : Int) < 16 := by omega
                            have u2 : 0 ≤ 4 * (j : Int) + (r : Int) := by omega
                            have hyz := b4.ne_ b3 (by decide)
                            have hy0 := b4.ne_ b1 (by decide)
                            go_wp2
                            go_still_tail 26, (by kernel_rfl)
                            still_call ((double_any _ _).mono (by rintro e w' ⟨rfl, rfl⟩; exact ⟨rfl, rfl⟩))
                            repeat still_step
                            still_call ((double_any _ _).mono (by rintro e w' ⟨rfl, rfl⟩; exact ⟨rfl, rfl⟩))
                            repeat still_step
                            refine wpStill_nil ?_
                            change wpList _ _ _ _ _ wr.drew
                            go_wp2
                            clear v1 v2 v3 v4 v5 v6 m1 m2 m3 n1 n2 n3 h1 h2 h3 u1 u2
                            go_roundw
                            case rel => exact ⟨r + 1, by omega, by go_num, b1.drew.far (by simp; omega) _, b2.drew.far (by simp; omega) _, hB.drew.setCell (by simp; omega) _, by rw [iter, Hd1.out, Aes.refRow, Hp1.out, Hp2.out, Hp3.out, Hx0.out, Hx1.out, Hx2.out, Hx3.out]; exact b3.drew.arr_set _ _, b4.drew.far (by simp; omega) _⟩
                            case measure => simp [intOf]; omega
                          · have e4 : r = 4 := by omega
                            subst e4
                            have tr : ¬ ((4 : Nat) : Int) < 4 := by omega
                            have Hfin := hd (show Aes.mixCol j c = d by rw [← Aes.refCol_mix j hj4 c Hcl.out, Hac.out]; exact Hd1.out)
                            go_wp2
                            go_roundw
                            case rel => exact ⟨j + 1, by omega, by go_num, b1, b2, hB, by rw [iter, Hc.out, Hfin.out]; exact b3⟩
                            case measure => simp [intOf]; omega
                  · have e4 : j = 4 := by omega
                    subst e4
                    have tj : ¬ ((4 : Nat) : Int) < 4 := by omega
                    have Hstep := hd (show Aes.roundStep rs k s = Aes.xor16 c (rs.getD (k + 1) []) by rw [Aes.roundStep, if_pos (by rw [Hn.out]; omega), Ht.out, Aes.mix_eq, Hc.out])
                    go_wp2
                    have hq := Hd.out K4 (k + 1) (by rw [Hn.out]; omega)
                    obtain ⟨q, Hq⟩ : ∃ q, Hd (rs.getD (k + 1) [] = q) := ⟨_, ⟨rfl⟩⟩
                    rw [Hq.out] at hq
                    have Hql := hd hq.1
                    have Hqc := hd hq.2
                    clear hq
                    go_loopw [15] (fun i wi => ∃ e : Nat, e ≤ 16 ∧ i = .int .i64 (e : Int) ∧ Blk wi w.heap.size 104 (arr (iter (Aes.setStep c q) e s)) ∧ Blk wi (w.heap.size + 1) 104 (arr (List.replicate 16 0)) ∧ Below w.heap.size w wi ∧
                      Blk wi z 104 (arr c)) (fun i _ => 16 - (intOf i).toNat)
                    case atStart => exact ⟨0, by omega, rfl, b1, b2, hB, b3⟩
                    case round =>
                      clear b1 b2 b3 hB
                      obtain ⟨e, he16, rfl, b1, b2, hB, b3⟩ := hrel
                      obtain ⟨u, Hu⟩ : ∃ u, Hd (iter (Aes.setStep c q) e s = u) := ⟨_, ⟨rfl⟩⟩
                      rw [Hu.out] at b1
                      have Hul := hd (show u.length = 16 by rw [← Hu.out, Aes.setStep_len, Hl.out])
                      by_cases het : e < 16
                      · have te : (e : Int) < 16 := by omega
                        have c1 := b3.arr_cell e (by rw [Hcl.out]; exact het)
                        have c2 : wr.cell? ⟨g, (k + 1) * 16 + e, none⟩ = some (.int .u8 (n8 (nth q e))) := ((hB.cell (p := ⟨g, (k + 1) * 16 + e, none⟩) hg).trans (k1.cell _)).trans (Hqc.out e het)
                        have f1 := b1.frozen e
                        have c3 := b1.arr_cell e (by rw [Hul.out]; exact het)
                        have v1 : (k : Int) + 1 < 15 := by omega
                        have v2 : 0 ≤ (k : Int) + 1 := by omega
                        have v3 : ((k : Int) + 1).toNat = k + 1 := by omega
                        go_wp2
                        go_still_tail 14, (by kernel_rfl)
                        change wpList _ _ _ _ _ wr.drew
                        go_wp2
                        clear v1 v2 v3
                        go_roundw
                        case rel => exact ⟨e + 1, by omega, by go_num, by rw [iter, Hu.out, Aes.setStep]; exact b1.drew.arr_set _ _, b2.drew.far (by simp) _, hB.drew.setCell (by simp) _, b3.drew.far (by simp; omega) _⟩
                        case measure => simp [intOf]; omega
                      · have e16 : e = 16 := by omega
                        subst e16
                        have Hfin := hd (show Aes.xor16 c q = u by rw [← Aes.set_all c q s Hl.out Hcl.out]; exact Hu.out)
                        have te : ¬ ((16 : Nat) : Int) < 16 := by omega
                        go_wp2
                        go_roundw
                        case rel => exact ⟨k + 1, by omega, by go_num, by rw [Aes.encRun_succ, Hs.out, Hstep.out, Hq.out, Hfin.out]; exact b1, b2, hB⟩
                        case measure => simp [intOf]; omega
              · have tl : ¬ (k : Int) + 1 < (n : Int) := by omega
                have Hstep := hd (show Aes.roundStep rs k s = Aes.xor16 t (rs.getD (k + 1) []) by rw [Aes.roundStep, if_neg (by rw [Hn.out]; omega), Ht.out])
                go_wp2
                clear cn
                have hq := Hd.out K4 (k + 1) (by rw [Hn.out]; omega)
                obtain ⟨q, Hq⟩ : ∃ q, Hd (rs.getD (k + 1) [] = q) := ⟨_, ⟨rfl⟩⟩
                rw [Hq.out] at hq
                have Hql := hd hq.1
                have Hqc := hd hq.2
                clear hq
                go_loopw [15] (fun i wi => ∃ e : Nat, e ≤ 16 ∧ i = .int .i64 (e : Int) ∧ Blk wi w.heap.size 104 (arr (iter (Aes.setStep t q) e s)) ∧ Blk wi (w.heap.size + 1) 104 (arr (List.replicate 16 0)) ∧ Below w.heap.size w wi ∧
                  Blk wi z 104 (arr t)) (fun i _ => 16 - (intOf i).toNat)
                case atStart => exact ⟨0, by omega, rfl, b1, b2, hB, b3⟩
                case round =>
                  clear b1 b2 b3 hB
                  obtain ⟨e, he16, rfl, b1, b2, hB, b3⟩ := hrel
                  obtain ⟨u, Hu⟩ : ∃ u, Hd (iter (Aes.setStep t q) e s = u) := ⟨_, ⟨rfl⟩⟩
                  rw [Hu.out] at b1
                  have Hul := hd (show u.length = 16 by rw [← Hu.out, Aes.setStep_len, Hl.out])
                  by_cases het : e < 16
                  · have te : (e : Int) < 16 := by omega
                    have c1 := b3.arr_cell e (by rw [Htl.out]; exact het)
                    have c2 : wr.cell? ⟨g, (k + 1) * 16 + e, none⟩ = some (.int .u8 (n8 (nth q e))) := ((hB.cell (p := ⟨g, (k + 1) * 16 + e, none⟩) hg).trans (k1.cell _)).trans (Hqc.out e het)
                    have f1 := b1.frozen e
                    have c3 := b1.arr_cell e (by rw [Hul.out]; exact het)
                    have v1 : (k : Int) + 1 < 15 := by omega
                    have v2 : 0 ≤ (k : Int) + 1 := by omega
                    have v3 : ((k : Int) + 1).toNat = k + 1 := by omega
                    go_wp2
                    go_still_tail 14, (by kernel_rfl)
                    change wpList _ _ _ _ _ wr.drew
                    go_wp2
                    clear v1 v2 v3
                    go_roundw
                    case rel => exact ⟨e + 1, by omega, by go_num, by rw [iter, Hu.out, Aes.setStep]; exact b1.drew.arr_set _ _, b2.drew.far (by simp) _, hB.drew.setCell (by simp) _, b3.drew.far (by simp; omega) _⟩
                    case measure => simp [intOf]; omega
                  · have e16 : e = 16 := by omega
                    subst e16
                    have Hfin := hd (show Aes.xor16 t q = u by rw [← Aes.set_all t q s Hl.out Htl.out]; exact Hu.out)
                    have te : ¬ ((16 : Nat) : Int) < 16 := by omega
                    go_wp2
                    go_roundw
                    case rel => exact ⟨k + 1, by omega, by go_num, by rw [Aes.encRun_succ, Hs.out, Hstep.out, Hq.out, Hfin.out]; exact b1, b2, hB⟩
                    case measure => simp [intOf]; omega
        · have ek : k = n := by omega
          have Hfin := hd (show Aes.enc rs b = s by rw [Aes.enc, Hn.out, Nat.add_sub_cancel, ← ek]; exact Hs.out)
          have t1 : ¬ (k : Int) + 1 ≤ (n : Int) := by omega
          go_wp2_with (first | (refine wpl_load_arr rfl 104 _ rfl _ rfl 16 ty16 s Hl.out b1.cells_arr ?_) | (refine wpl_store_arr rfl 104 _ _ rfl (w.heap.size + 1) s rfl rfl 104 _ b2 16 ty16.size Hl.out (by rw [arr_size, List.length_replicate]) ?_))
          rw [Hfin.out]
          exact ret_arr rfl (w.heap.size + 1) rfl ty16 s Hl.out (b2.setRow _).cells_arr rfl ⟨rfl, below_setRow hB (by omega) _⟩

end Go.Proofs.Ytbcboldepghgpaa
