/-
  The walks that make the boxes, the program's and the reference's.
-/
import Derived.Test.YtbnhjgknffcjeaaAesA
import Derived.Test.YtbnhjgknffcjeaaTy
set_option linter.unusedVariables false
set_option linter.unusedSimpArgs false
namespace Go.Proofs.Ytbnhjgknffcjeaa
open Go.RowKit
theorem n8_ilt (x : UInt8) : ((n8 x : Nat) : Int) < 256 := by have := n8_lt x; omega
set_option maxHeartbeats 2000000 in
set_option maxRecDepth 100000 in
theorem boxes_any (w : World) :
    Calls Try.prog 79 #[] w fun e w' => e = .returned (.agg (arr Aes.sbox)) ∧ Below w.heap.size w w' := by
  go_enter Try.func79, Try.ntmps79
  go_wp2_with (refine wpl_alloc rfl 74 rfl _ zero256 ?_)
  go_loopw [2, 3, 5] (fun p q i wr => ∃ k : Nat, k ≤ 255 ∧ i = .int .i64 k ∧ p = .int .u8 (n8 (Aes.boxRun k).2.1) ∧ q = .int .u8 (n8 (Aes.boxRun k).2.2) ∧
      Blk wr (w.heap.size + 1) 74 (arr (Aes.boxRun k).1) ∧ Blk wr w.heap.size 74 (arr (List.replicate 256 0)) ∧ Below w.heap.size w wr) (fun _ _ i _ => 255 - (intOf i).toNat)
  case atStart =>
    refine ⟨0, by omega, rfl, by rw [Aes.boxRun_zero]; rfl, by rw [Aes.boxRun_zero]; rfl, ?_, ?_, ?_⟩
    · rw [Aes.boxRun_zero]; exact Blk.nu (by simp)
    · exact (Blk.nu (by simp)).alloc _
    · exact ((Below.refl _ _).alloc (by simp) _).alloc (by simp) _
  case round =>
    obtain ⟨k, hk, rfl, rfl, rfl, b1, b2, hB⟩ := hrel
    obtain ⟨s, Hs⟩ : ∃ s, Hd (Aes.boxRun k = s) := ⟨_, ⟨rfl⟩⟩
    rw [Hs.out] at b1
    rw [Hs.out]
    have Hl := hd (show s.1.length = 256 by rw [← Hs.out, Aes.boxRun_len])
    by_cases hlt : k < 255
    · have p0 := n8_ilt (s.2.1 ^^^ Aes.twice s.2.1)
      have c1 := b1.arr_cell (n8 (s.2.1 ^^^ Aes.twice s.2.1)) (by rw [Hl.out]; exact n8_lt _)
      have f1 := b1.frozen (n8 (s.2.1 ^^^ Aes.twice s.2.1))
      go_wp2_with (first | (go_at_call 80; refine (twice_any _ _).mono ?_; rintro e w' ⟨rfl, rfl⟩) | (go_at_call 94; refine (turned_any _ _ (by omega) (by omega) _).mono ?_; rintro e w' ⟨rfl, m, rfl⟩))
      go_roundw
      case rel => exact ⟨k + 1, by omega, by go_num, by rw [Aes.boxRun_succ, Hs.out]; rfl, by rw [Aes.boxRun_succ, Hs.out]; rfl, by rw [Aes.boxRun_succ, Hs.out]; exact (b1.drewN _).arr_set _ _, (b2.drewN _).far (by simp) _, (below_drewN hB _).setCell (by simp) _⟩
      case measure => simp [intOf]; omega
    · have e5 : k = 255 := by omega
      subst e5
      have c1 := b1.arr_cell 0 (by rw [Hl.out]; omega)
      have f1 := b1.frozen 0
      have Hl2 := hd (show (s.1.set 0 0x63).length = 256 by rw [List.length_set, Hl.out])
      have b3 := b1.arr_set 0 0x63
      have b4 := b2.far (p := ⟨w.heap.size + 1, 0, none⟩) (by simp) (.int .u8 (n8 0x63))
      have hB4 := hB.setCell (p := ⟨w.heap.size + 1, 0, none⟩) (by simp) (.int .u8 (n8 0x63))
      go_wp2_with (first | (refine wpl_load_arr rfl 74 _ rfl _ rfl 256 ty256 (s.1.set 0 0x63) Hl2.out b3.cells_arr ?_) | (refine wpl_store_arr rfl 74 _ _ rfl w.heap.size (s.1.set 0 0x63) rfl rfl 74 _ b4 256 ty256.size Hl2.out (by rw [arr_size]; exact List.length_replicate) ?_))
      exact ret_arr rfl w.heap.size rfl ty256 _ Hl2.out (b4.setRow _).cells_arr rfl ⟨by rw [Aes.sbox_eq, ← Hs.out], below_setRow hB4 (by omega) _⟩

theorem wrap_u8_nat (k : Nat) : IntKind.u8.wrap (k : Int) = ((n8 (UInt8.ofNat k) : Nat) : Int) := by
  rw [wrap_n8, BitVec.ofInt_natCast]; rfl
set_option maxHeartbeats 2000000 in
set_option maxRecDepth 100000 in
theorem Boxes_any (w : World) :
    Calls Try.prog 46 #[] w fun e w' => e = .returned (.agg (arr (Aes.boxesRun 256))) ∧ Below w.heap.size w w' := by
  go_enter Try.func46, Try.ntmps46
  go_wp2_with (refine wpl_alloc rfl 74 rfl _ zero256 ?_)
  go_loopw [2] (fun i wr => ∃ k : Nat, k ≤ 256 ∧ i = .int .i64 k ∧
      Blk wr (w.heap.size + 1) 74 (arr (Aes.boxesRun k)) ∧ Blk wr w.heap.size 74 (arr (List.replicate 256 0)) ∧ Below w.heap.size w wr) (fun i _ => 256 - (intOf i).toNat)
  case atStart =>
    refine ⟨0, by omega, rfl, ?_, ?_, ?_⟩
    · rw [Aes.boxesRun_zero]; exact Blk.nu (by simp)
    · exact (Blk.nu (by simp)).alloc _
    · exact ((Below.refl _ _).alloc (by simp) _).alloc (by simp) _
  case round =>
    obtain ⟨k, hk, rfl, b1, b2, hB⟩ := hrel
    obtain ⟨s, Hs⟩ : ∃ s, Hd (Aes.boxesRun k = s) := ⟨_, ⟨rfl⟩⟩
    rw [Hs.out] at b1
    have Hl := hd (show s.length = 256 by rw [← Hs.out, Aes.boxesRun_len])
    by_cases hlt : k < 256
    · have t0 : (k : Int) < 256 := by omega
      have c1 := b1.arr_cell k (by rw [Hl.out]; exact hlt)
      have f1 := b1.frozen k
      have wu := wrap_u8_nat k
      go_wp2_with (go_at_call 63; refine (refBox_any _ _).mono ?_; rintro e w' ⟨rfl, m, rfl⟩)
      go_roundw
      case rel => exact ⟨k + 1, by omega, by go_num, by rw [Aes.boxesRun_succ, Hs.out]; exact (b1.drewN _).arr_set _ _, (b2.drewN _).far (by simp) _, (below_drewN hB _).setCell (by simp) _⟩
      case measure => simp [intOf]; omega
    · have e5 : k = 256 := by omega
      subst e5
      go_wp2_with (first | (refine wpl_load_arr rfl 74 _ rfl _ rfl 256 ty256 s Hl.out b1.cells_arr ?_) | (refine wpl_store_arr rfl 74 _ _ rfl w.heap.size s rfl rfl 74 _ b2 256 ty256.size Hl.out (by rw [arr_size]; exact List.length_replicate) ?_))
      exact ret_arr rfl w.heap.size rfl ty256 _ Hl.out (b2.setRow _).cells_arr rfl ⟨by rw [← Hs.out], below_setRow hB (by omega) _⟩
end Go.Proofs.Ytbnhjgknffcjeaa
