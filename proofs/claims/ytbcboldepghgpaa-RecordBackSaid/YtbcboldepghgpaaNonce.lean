/-
  A record's nonce: the program's and the reference's, walked; and what it is, in plain Lean.
-/
import Derived.Test.YtbcboldepghgpaaJa
import Derived.WalkSpells
import Derived.BigRegion
set_option linter.unusedVariables false
set_option linter.unusedSimpArgs false
set_option maxRecDepth 100000
namespace Go.Proofs.Ytbcboldepghgpaa
open Go.RowKit
namespace Suite
def nonceStep (q : UInt64) (k : Nat) (s : List UInt8) : List UInt8 := s.set (11 - k) (nth s (11 - k) ^^^ (shr64 q (8 * k)).toUInt8)
def nonceOf (iv : List UInt8) (q : UInt64) : List UInt8 := iter (nonceStep q) 8 iv
theorem nonceStep_len (q : UInt64) (s : List UInt8) (k : Nat) : (iter (nonceStep q) k s).length = s.length := iter_keeps _ _ (fun k s => by simp [nonceStep]) k s
theorem nonce_nth (q : UInt64) (s : List UInt8) (hs : s.length = 12) : ∀ k, k ≤ 8 → ∀ i, i < 12 → nth (iter (nonceStep q) k s) i = if 12 - k ≤ i then nth s i ^^^ (shr64 q (8 * (11 - i))).toUInt8 else nth s i
  | 0, _, i, hi => by rw [iter, if_neg (by omega)]
  | k + 1, hk, i, hi => by
    have ih := nonce_nth q s hs k (by omega)
    rw [iter, nonceStep, Aes.nth_set _ _ _ _ (by rw [nonceStep_len]; omega)]
    by_cases h : i = 11 - k
    · have e := ih i hi
      rw [if_neg (by omega)] at e
      rw [if_pos h, if_pos (by omega), ← h, e, show 11 - i = k by omega]
    · rw [if_neg h, ih i hi]
      by_cases h2 : 12 - k ≤ i
      · rw [if_pos h2, if_pos (by omega)]
      · rw [if_neg h2, if_neg (by omega)]
theorem nonce_len (iv : List UInt8) (q : UInt64) : (nonceOf iv q).length = iv.length := nonceStep_len _ _ _
theorem shr_next (q : UInt64) (k : Nat) (hk : k ≤ 7) : shr64 q (8 * k) >>> 8 = shr64 q (8 * (k + 1)) := by
  apply UInt64.toNat_inj.1
  have hq := q.toNat_lt
  have e : ∀ n, n ≤ 64 → (shr64 q n).toNat = q.toNat / 2 ^ n := fun n hn => by
    rw [shr64, Nat.min_eq_left hn, UInt64.toNat_ofNat']
    exact Nat.mod_eq_of_lt (Nat.lt_of_le_of_lt (Nat.div_le_self _ _) hq)
  rw [UInt64.toNat_shiftRight, e _ (by omega), e _ (by omega), show (8 : UInt64).toNat % 64 = 8 by decide, Nat.shiftRight_eq_div_pow, Nat.div_div_eq_div_mul, ← Nat.pow_add]
  rfl
theorem shr_zero (q : UInt64) : shr64 q 0 = q := by
  apply UInt64.toNat_inj.1
  rw [shr64, UInt64.toNat_ofNat', Nat.min_eq_left (by omega), Nat.pow_zero, Nat.div_one]
  exact Nat.mod_eq_of_lt q.toNat_lt
theorem xor_cancel (x y z : UInt8) (h : x ^^^ y = x ^^^ z) : y = z := by
  have h2 : x ^^^ (x ^^^ y) = x ^^^ (x ^^^ z) := by rw [h]
  rwa [← UInt8.xor_assoc, ← UInt8.xor_assoc, UInt8.xor_self, UInt8.zero_xor, UInt8.zero_xor] at h2
/-- Unlike numbers, unlike nonces. -/
theorem nonce_apart (iv : List UInt8) (hiv : iv.length = 12) (a b : UInt64) : nonceOf iv a = nonceOf iv b ↔ a = b := by
  constructor
  · intro h
    have hb : ∀ j, j < 8 → (shr64 a (8 * j)).toUInt8 = (shr64 b (8 * j)).toUInt8 := fun j hj => by
      have h1 := nonce_nth a iv hiv 8 (Nat.le_refl _) (11 - j) (by omega)
      have h2 := nonce_nth b iv hiv 8 (Nat.le_refl _) (11 - j) (by omega)
      rw [if_pos (by omega), show 11 - (11 - j) = j by omega] at h1 h2
      have h3 : nth (iter (nonceStep a) 8 iv) (11 - j) = nth (iter (nonceStep b) 8 iv) (11 - j) := congrArg (fun l => nth l (11 - j)) h
      exact xor_cancel _ _ _ (h1.symm.trans (h3.trans h2))
    have e : ∀ (q : UInt64) j, j < 8 → (shr64 q (8 * j)).toUInt8.toNat = q.toNat / 2 ^ (8 * j) % 256 := fun q j hj => by
      rw [UInt64.toNat_toUInt8, shr64, Nat.min_eq_left (by omega), UInt64.toNat_ofNat', Nat.mod_eq_of_lt (Nat.lt_of_le_of_lt (Nat.div_le_self _ _) q.toNat_lt)]
    apply UInt64.toNat_inj.1
    have ha := a.toNat_lt
    have hb2 := b.toNat_lt
    have k : ∀ j, j < 8 → a.toNat / 2 ^ (8 * j) % 256 = b.toNat / 2 ^ (8 * j) % 256 := fun j hj => by rw [← e a j hj, ← e b j hj, hb j hj]
    have k0 := k 0 (by omega)
    have k1 := k 1 (by omega)
    have k2 := k 2 (by omega)
    have k3 := k 3 (by omega)
    have k4 := k 4 (by omega)
    have k5 := k 5 (by omega)
    have k6 := k 6 (by omega)
    have k7 := k 7 (by omega)
    simp only [Nat.mul_zero, Nat.pow_zero, Nat.div_one] at k0
    simp only [Nat.reduceMul, Nat.reducePow] at k1 k2 k3 k4 k5 k6 k7
    omega
  · rintro rfl; rfl
end Suite
theorem zero12n : (Try.prog.info? 25).bind (·.zero) = some (.agg (arr (List.replicate 12 0))) := by kernel_rfl
theorem ty12n : AggT Try.prog 25 12 := ⟨by kernel_rfl, by kernel_rfl⟩
set_option maxHeartbeats 2000000 in
set_option maxRecDepth 100000 in
theorem nonce_any (iv : List UInt8) (hiv : iv.length = 12) (q : UInt64) (w : World) :
    Calls Try.prog 43 #[.agg (arr iv), .int .u64 ((n64 q : Nat) : Int)] w fun e w' => e = .returned (.agg (arr (Suite.nonceOf iv q))) ∧ Below w.heap.size w w' := by
  have Hiv := hd hiv
  clear hiv
  obtain ⟨r, Hr⟩ : ∃ r, Hd (Suite.nonceOf iv q = r) := ⟨_, ⟨rfl⟩⟩
  rw [Hr.out]
  have h0 : Blk ((w.alloc (.cells (arr iv) 25)).alloc (.cells (arr (List.replicate 12 0)) 25)) w.heap.size 25 (arr iv) ∧ Blk ((w.alloc (.cells (arr iv) 25)).alloc (.cells (arr (List.replicate 12 0)) 25)) (w.heap.size + 1) 25 (arr (List.replicate 12 0)) ∧ Below w.heap.size w ((w.alloc (.cells (arr iv) 25)).alloc (.cells (arr (List.replicate 12 0)) 25)) :=
    ⟨(Blk.nu (by simp)).alloc _, Blk.nu (by simp), ((Below.refl _ _).alloc (by simp) _).alloc (by simp) _⟩
  have Hq0 := hd (show q = shr64 q (8 * 0) by rw [Nat.mul_zero, Suite.shr_zero])
  go_enter Try.func43, Try.ntmps43
  go_wp2_with (refine wpl_alloc rfl 25 rfl _ zero12n ?_; simp only [World.size_alloc]; refine wpl_name (fun wo => Blk wo w.heap.size 25 (arr iv) ∧ Blk wo (w.heap.size + 1) 25 (arr (List.replicate 12 0)) ∧ Below w.heap.size w wo) h0 ?_; clear h0; rintro wo ⟨b0, b1, hB⟩)
  go_loopw [1, 5] (fun s i wr => ∃ k : Nat, k ≤ 8 ∧ s = .int .u64 ((n64 (shr64 q (8 * k)) : Nat) : Int) ∧ i = .int .i64 (11 - (k : Int)) ∧ Blk wr w.heap.size 25 (arr (iter (Suite.nonceStep q) k iv)) ∧ Blk wr (w.heap.size + 1) 25 (arr (List.replicate 12 0)) ∧ Below w.heap.size w wr) (fun _ i _ => (intOf i).toNat)
  case atStart => exact ⟨0, by omega, by rw [← Hq0.out], rfl, b0, b1, hB⟩
  case round =>
    clear b0 b1 hB
    obtain ⟨k, hk, rfl, rfl, b0, b1, hB⟩ := hrel
    obtain ⟨s, Hs⟩ : ∃ s, Hd (iter (Suite.nonceStep q) k iv = s) := ⟨_, ⟨rfl⟩⟩
    rw [Hs.out] at b0
    have Hl := hd (show s.length = 12 by rw [← Hs.out, Suite.nonceStep_len, Hiv.out])
    obtain ⟨j, Hj⟩ : ∃ j, Hd (11 - k = j) := ⟨_, ⟨rfl⟩⟩
    have ej : (11 : Int) - (k : Int) = (j : Int) := by have := Hj.out; omega
    have hj : j < 12 := by rw [← Hj.out]; omega
    rw [ej]
    obtain ⟨x, Hx⟩ : ∃ x, Hd (shr64 q (8 * k) = x) := ⟨_, ⟨rfl⟩⟩
    rw [Hx.out]
    by_cases hlt : k < 8
    · have t1 : (4 : Int) ≤ (j : Int) := by have := Hj.out; omega
      have t2 : (j : Int) < 12 := by omega
      have Hnx := hd (show iter (Suite.nonceStep q) (k + 1) iv = s.set j (nth s j ^^^ x.toUInt8) by rw [iter, Hs.out, Suite.nonceStep, Hj.out, Hx.out])
      have Hsh := hd (show x >>> 8 = shr64 q (8 * (k + 1)) by rw [← Hx.out, Suite.shr_next q k (by omega)])
      have c0 := b0.arr_cell j (by rw [Hl.out]; exact hj)
      have f0 := b0.frozen j
      go_wp2
      go_roundw
      case rel => exact ⟨k + 1, by omega, by rw [← Hsh.out], by have := Hj.out; go_num, by rw [Hnx.out]; exact b0.arr_set _ _, b1.far (by simp <;> omega) _, hB.setCell (by simp <;> omega) _⟩
      case measure => simp [intOf]; have := Hj.out; omega
    · have ek : k = 8 := by omega
      subst ek
      have t1 : ¬ (4 : Int) ≤ (j : Int) := by have := Hj.out; omega
      have Hfin := hd (show r = s by rw [← Hr.out, ← Hs.out]; rfl)
      go_wp2_with (first | (refine wpl_load_arr rfl 25 _ rfl _ rfl 12 ty12n s Hl.out b0.cells_arr ?_) | (refine wpl_store_arr rfl 25 _ _ rfl (w.heap.size + 1) s rfl rfl 25 _ b1 12 ty12n.size Hl.out (by rw [arr_size, List.length_replicate]) ?_))
      rw [Hfin.out]
      exact ret_arr rfl (w.heap.size + 1) rfl ty12n s Hl.out (b1.setRow _).cells_arr rfl ⟨rfl, below_setRow hB (by omega) _⟩
end Go.Proofs.Ytbcboldepghgpaa
