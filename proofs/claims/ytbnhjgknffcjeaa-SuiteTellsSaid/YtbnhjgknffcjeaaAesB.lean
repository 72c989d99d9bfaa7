/-
  The walks of AES's block functions: a block XOR a round key; the columns mixed.
-/
import Derived.Test.YtbnhjgknffcjeaaAesA
set_option linter.unusedVariables false
set_option linter.unusedSimpArgs false
namespace Go.Proofs.Ytbnhjgknffcjeaa
open Go.RowKit
set_option maxHeartbeats 400000 in
set_option maxRecDepth 100000 in
theorem with_any (a b : List UInt8) (ha : a.length = 16) (hb : b.length = 16) (w : World) :
    Calls Try.prog 85 #[.agg (arr a), .agg (arr b)] w fun e w' => e = .returned (.agg (arr (Aes.xor16 a b))) ∧ Below w.heap.size w w' := by
  have Ha := hd ha
  have Hb := hd hb
  clear ha hb
  go_enter Try.func85, Try.ntmps85
  go_wp2
  go_loopw [6] (fun i wr => ∃ k : Nat, k ≤ 16 ∧ i = .int .i64 k ∧ Blk wr w.heap.size 63 (arr (iter (Aes.xorStep b) k a)) ∧ Blk wr (w.heap.size + 1) 63 (arr b) ∧
      Blk wr (w.heap.size + 1 + 1) 63 (arr (List.replicate 16 0)) ∧ Below w.heap.size w wr) (fun i _ => 16 - (intOf i).toNat)
  case atStart =>
    refine ⟨0, by omega, rfl, ?_, ?_, ?_, ?_⟩
    · exact ((Blk.nu (by simp)).alloc _).alloc _
    · exact (Blk.nu (by simp)).alloc _
    · exact Blk.nu (by simp)
    · exact (((Below.refl _ _).alloc (by simp) _).alloc (by simp) _).alloc (by simp; omega) _
  case round =>
    obtain ⟨k, hk, rfl, b1, b2, b3, hB⟩ := hrel
    have Hsz := hd (show (arr (iter (Aes.xorStep b) 16 a)).size = 16 by rw [arr_size, Aes.xorStep_len, Ha.out])
    by_cases hlt : k < 16
    · have c1 := b1.arr_cell k (by rw [Aes.xorStep_len, Ha.out]; exact hlt)
      have c2 := b2.arr_cell k (by rw [Hb.out]; exact hlt)
      have f1 := b1.frozen k
      go_wp2
      go_still_tail 8, (by kernel_rfl)
      change wpList _ _ _ _ _ wr.drew
      go_wp2
      go_roundw
      case rel =>
        exact ⟨k + 1, by omega, by go_num, b1.drew.arr_set k _, b2.drew.far (by simp) _, b3.drew.far (by simp; omega) _, hB.drew.setCell (by simp) _⟩
      case measure => simp [intOf]; omega
    · have hk16 : k = 16 := by omega
      subst hk16
      go_wp2_with (first | (refine wpList_load_row rfl 63 _ rfl w.heap.size rfl 63 _ _ _ b1.is Try.underlying63 rfl (by rw [Hsz.out]; kernel_rfl) ?_) | (refine wpList_store_row rfl 63 _ _ rfl (w.heap.size+1+1) _ rfl rfl 63 _ b3.is (by rw [Hsz.out]; kernel_rfl) ?c1 ?c2 ?_))
      case c1 => rw [Hsz.out]; rfl
      case c2 => exact arr_one _
      exact bodyPost_ret (results_cell_row rfl _ _ (w.heap.size+1+1) 63 _ _ _ rfl (b3.setRow _).is Try.underlying63 rfl (by rw [Hsz.out]; kernel_rfl)) rfl ⟨by rw [Aes.xor16_eq], below_setRow hB (by omega) _⟩

theorem mixRow_yes (c : Nat) (x f : UInt8) (r : Nat) (b : List UInt8) (h : r < 3) : Aes.mixRow c x f r b = b.set (c + r) (nth b (c + r) ^^^ (x ^^^ Aes.twice (nth b (c + r) ^^^ nth b (c + r + 1)))) := by simp [Aes.mixRow, h]
theorem mixRow_no (c : Nat) (x f : UInt8) (b : List UInt8) : Aes.mixRow c x f 3 b = b.set (c + 3) (nth b (c + 3) ^^^ (x ^^^ Aes.twice (nth b (c + 3) ^^^ f))) := by simp [Aes.mixRow]
theorem mixCol_eq (j : Nat) (b : List UInt8) : Aes.mixCol j b = iter (Aes.mixRow (4 * j) (nth b (4 * j) ^^^ nth b (4 * j + 1) ^^^ nth b (4 * j + 2) ^^^ nth b (4 * j + 3)) (nth b (4 * j))) 4 b := rfl
set_option maxHeartbeats 1000000 in
set_option maxRecDepth 100000 in
theorem mixed_any (b : List UInt8) (hb : b.length = 16) (w : World) :
    Calls Try.prog 86 #[.agg (arr b)] w fun e w' => e = .returned (.agg (arr (Aes.mix b))) ∧ Below w.heap.size w w' := by
  have Hb := hd hb
  clear hb
  go_enter Try.func86, Try.ntmps86
  go_wp2
  go_loopw [3] (fun i wr => ∃ k : Nat, k ≤ 4 ∧ i = .int .i64 (4 * (k : Int)) ∧ Blk wr w.heap.size 63 (arr (iter Aes.mixCol k b)) ∧
      Blk wr (w.heap.size + 1) 63 (arr (List.replicate 16 0)) ∧ Below w.heap.size w wr) (fun i _ => 16 - (intOf i).toNat)
  case atStart =>
    refine ⟨0, by omega, rfl, ?_, ?_, ?_⟩
    · exact (Blk.nu (by simp)).alloc _
    · exact Blk.nu (by simp)
    · exact ((Below.refl _ _).alloc (by simp) _).alloc (by simp) _
  case round =>
    obtain ⟨k, hk, rfl, b1, b2, hB⟩ := hrel
    obtain ⟨s, Hs⟩ : ∃ s, Hd (iter Aes.mixCol k b = s) := ⟨_, ⟨rfl⟩⟩
    rw [Hs.out] at b1
    have Hl := hd (show s.length = 16 by rw [← Hs.out, Aes.mixCol_len, Hb.out])
    by_cases hlt : k < 4
    · have c0 := b1.arr_cell (4 * k) (by rw [Hl.out]; omega)
      have c1 := b1.arr_cell (4 * k + 1) (by rw [Hl.out]; omega)
      have c2 := b1.arr_cell (4 * k + 2) (by rw [Hl.out]; omega)
      have c3 := b1.arr_cell (4 * k + 3) (by rw [Hl.out]; omega)
      have t9 : 4 * (k : Int) < 16 := by omega
      go_wp2
      go_quiet (fail)
      go_wp2
      obtain ⟨X, HX⟩ : ∃ X, Hd (nth s (4 * k) ^^^ nth s (4 * k + 1) ^^^ nth s (4 * k + 2) ^^^ nth s (4 * k + 3) = X) := ⟨_, ⟨rfl⟩⟩
      obtain ⟨F, HF⟩ : ∃ F, Hd (nth s (4 * k) = F) := ⟨_, ⟨rfl⟩⟩
      rw [HX.out]
      rw [HF.out]
      have b1 := b1.drewN nq
      have b2 := b2.drewN nq
      have hB := below_drewN hB nq
      clear c0 c1 c2 c3
      generalize wr.drewN nq = wo at b1 b2 hB
      go_loopw [33] (fun i wr => ∃ r : Nat, r ≤ 4 ∧ i = .int .i64 (r : Int) ∧ Blk wr w.heap.size 63 (arr (iter (Aes.mixRow (4 * k) X F) r s)) ∧
        Blk wr (w.heap.size + 1) 63 (arr (List.replicate 16 0)) ∧ Below w.heap.size w wr) (fun i _ => 4 - (intOf i).toNat)
      case atStart => exact ⟨0, by omega, rfl, b1, b2, hB⟩
      case round =>
        obtain ⟨r, hr, rfl, b1, b2, hB⟩ := hrel
        obtain ⟨t, Ht⟩ : ∃ t, Hd (iter (Aes.mixRow (4 * k) X F) r s = t) := ⟨_, ⟨rfl⟩⟩
        rw [Ht.out] at b1
        have Htl := hd (show t.length = 16 by rw [← Ht.out, Aes.mixRow_len, Hl.out])
        by_cases hr4 : r < 4
        · have c0 := b1.arr_cell (4 * k + r) (by rw [Htl.out]; omega)
          have f0 := b1.frozen (4 * k + r)
          by_cases hr3 : r < 3
          · have c1 := b1.arr_cell (4 * k + r + 1) (by rw [Htl.out]; omega)
            go_wp2
            have w1 : IntKind.i64.wrap (4 * (k : Int) + (r : Int)) = 4 * (k : Int) + (r : Int) := IntWalk.i64_in _ (by omega)
            have w2 : (4 * (k : Int) + (r : Int)).toNat = 4 * k + r := by omega
            have w3 : 0 ≤ 4 * (k : Int) + (r : Int) := by omega
            have w4 : 4 * (k : Int) + (r : Int) < 16 := by omega
            go_still_tail 17, (by kernel_rfl)
            still_call ((twice_any _ _).mono (by rintro e w' ⟨rfl, rfl⟩; exact ⟨rfl, rfl⟩))
            repeat still_step
            refine wpStill_nil ?_
            change wpList _ _ _ _ _ wr.drew
            go_wp2
            clear w1 w2 w3 w4
            go_roundw
            case rel => exact ⟨r + 1, by omega, by go_num, by rw [show iter (Aes.mixRow (4 * k) X F) (r + 1) s = _ from by rw [iter, Ht.out, mixRow_yes _ _ _ _ _ hr3]]; exact b1.drew.arr_set _ _, b2.drew.far (by simp) _, hB.drew.setCell (by simp) _⟩
            case measure => simp [intOf]; omega
          · have e3 : r = 3 := by omega
            subst e3
            go_wp2
            have w1 : IntKind.i64.wrap (4 * (k : Int) + 3) = 4 * (k : Int) + 3 := IntWalk.i64_in _ (by omega)
            have w2 : (4 * (k : Int) + 3).toNat = 4 * k + 3 := by omega
            have w3 : 0 ≤ 4 * (k : Int) + 3 := by omega
            have w4 : 4 * (k : Int) + 3 < 16 := by omega
            go_still_tail 17, (by kernel_rfl)
            still_call ((twice_any _ _).mono (by rintro e w' ⟨rfl, rfl⟩; exact ⟨rfl, rfl⟩))
            repeat still_step
            refine wpStill_nil ?_
            change wpList _ _ _ _ _ wr.drew
            go_wp2
            clear w1 w2 w3 w4
            go_roundw
            case rel => exact ⟨4, by omega, by go_num, by rw [show iter (Aes.mixRow (4 * k) X F) 4 s = _ from by rw [iter, Ht.out, mixRow_no]]; exact b1.drew.arr_set _ _, b2.drew.far (by simp) _, hB.drew.setCell (by simp) _⟩
            case measure => simp [intOf]
        · have e4 : r = 4 := by omega
          subst e4
          go_wp2
          go_roundw
          case rel => exact ⟨k + 1, by omega, by rw [show (4 * (k : Int) + 4) = 4 * ((k + 1 : Nat) : Int) by omega], by rw [iter, Hs.out, mixCol_eq, HX.out, HF.out, Ht.out]; exact b1, b2, hB⟩
          case measure => simp [intOf]; omega
    · have e4 : k = 4 := by omega
      subst e4
      have Hsz := hd (show (arr s).size = 16 by rw [arr_size, Hl.out])
      go_wp2_with (first | (refine wpList_load_row rfl 63 _ rfl w.heap.size rfl 63 _ _ _ b1.is Try.underlying63 rfl (by rw [Hsz.out]; kernel_rfl) ?_) | (refine wpList_store_row rfl 63 _ _ rfl (w.heap.size+1) _ rfl rfl 63 _ b2.is (by rw [Hsz.out]; kernel_rfl) ?c1 ?c2 ?_))
      case c1 => rw [Hsz.out]; rfl
      case c2 => exact arr_one _
      exact bodyPost_ret (results_cell_row rfl _ _ (w.heap.size+1) 63 _ _ _ rfl (b2.setRow _).is Try.underlying63 rfl (by rw [Hsz.out]; kernel_rfl)) rfl ⟨by rw [← Hs.out, Aes.mix_eq], below_setRow hB (by omega) _⟩
end Go.Proofs.Ytbnhjgknffcjeaa
