/-
  The walks of AES's small functions.
  The walks that make the boxes, the program's and the reference's.
  The walks of AES's block functions: a block XOR a round key; the columns mixed.
  The walk that encrypts a block.
  The walk that makes a key ready.
-/
import Derived.Test.YthigbggacgiamaaDoorJa
import Derived.Test.YthigbggacgiamaaDoorProg
import Derived.WalkSpells
import Derived.WalkLawsBesides
import Derived.StillTailTactics
import Derived.Deep.QuietTactic
import Derived.BigQuiet
import Derived.Deep.RegionLaw
set_option linter.unusedVariables false
set_option linter.unusedSimpArgs false
set_option maxRecDepth 100000
namespace Go.Proofs.YthigbggacgiamaaDoor
open Go.RowKit
set_option maxHeartbeats 400000 in
set_option maxRecDepth 100000 in
theorem twice_any (a : UInt8) (w : World) :
    Calls Tryd.prog 68 #[.int .u8 (n8 a)] w fun e w' => e = .returned (.int .u8 (n8 (Aes.twice a))) ∧ w = w' := by
  go_enter Tryd.func68, Tryd.ntmps68
  go_wp2
  go_ret
  exact ⟨rfl, rfl⟩
theorem dbl_pos {a : UInt8} (h : a >>> 7 = 1) : Aes.dbl a = a <<< 1 ^^^ 0x1b := by simp [Aes.dbl, h]
theorem dbl_neg {a : UInt8} (h : ¬ a >>> 7 = 1) : Aes.dbl a = a <<< 1 := by simp [Aes.dbl, h]
set_option maxHeartbeats 400000 in
set_option maxRecDepth 100000 in
theorem turned_any (a : UInt8) (z : Int) (h0 : 0 ≤ z) (h : z ≤ 8) (w : World) :
    Calls Tryd.prog 84 #[.int .u8 (n8 a), .int .i64 z] w fun e w' => e = .returned (.int .u8 (n8 (Aes.rotl a z.toNat))) ∧ ∃ m, w' = w.drewN m := by
  obtain ⟨n, rfl⟩ := Int.eq_ofNat_of_zero_le h0
  have hn : n ≤ 8 := by omega
  have e1 : ((8 : Int) - (n : Int)) = ((8 - n : Nat) : Int) := by omega
  go_enter Tryd.func84, Tryd.ntmps84
  go_wp2
  go_quiet (fail)
  go_wp2
  clear e1
  go_ret
  exact ⟨rfl, _, rfl⟩
theorem refC_yes (b c : UInt8) (k : Nat) (h : k < 7) : Aes.refC b k c = Aes.times (Aes.times c c) b := by simp [Aes.refC, h]
theorem bit254 (k : Nat) (h : k < 8) : (bits .and .i64 (254 / 2 ^ (7 - k)) 1 == 1) = decide (k < 7) := by
  have : ∀ k < 8, (bits .and .i64 (254 / 2 ^ (7 - k)) 1 == 1) = decide (k < 7) := by decide
  exact this k h
end Go.Proofs.YthigbggacgiamaaDoor

namespace Go.Proofs.YthigbggacgiamaaDoor
open Go.RowKit
theorem n8_ilt (x : UInt8) : ((n8 x : Nat) : Int) < 256 := by have := n8_lt x; omega
set_option maxHeartbeats 2000000 in
set_option maxRecDepth 100000 in
theorem boxes_any (w : World) :
    Calls Tryd.prog 67 #[] w fun e w' => e = .returned (.agg (arr Aes.sbox)) ∧ Below w.heap.size w w' := by
  go_enter Tryd.func67, Tryd.ntmps67
  go_wp2_with (refine wpl_alloc rfl 131 rfl _ zero256 ?_)
  go_loopw [2, 3, 5] (fun p q i wr => ∃ k : Nat, k ≤ 255 ∧ i = .int .i64 k ∧ p = .int .u8 (n8 (Aes.boxRun k).2.1) ∧ q = .int .u8 (n8 (Aes.boxRun k).2.2) ∧
      Blk wr (w.heap.size + 1) 131 (arr (Aes.boxRun k).1) ∧ Blk wr w.heap.size 131 (arr (List.replicate 256 0)) ∧ Below w.heap.size w wr) (fun _ _ i _ => 255 - (intOf i).toNat)
  case atStart =>
    refine ⟨0, by omega, rfl, by rw [Aes.boxRun_zero]; rfl, by rw [Aes.boxRun_zero]; rfl, ?_, ?_, ?_⟩
    · rw [Aes.boxRun_zero]; exact Blk.nu (by simp)
    · exact (Blk.nu (by simp)).alloc _
    · exact ((Below.refl _ _).alloc (by simp) _).alloc (by simp) _
  case round =>
    obtain ⟨k, hk, rfl, rfl, rfl, b1, b2, hB⟩ := hrel
    obtain ⟨s, Hs⟩ : ∃ s, Hd (Aes.boxRun k = s) := ⟨_, ⟨rfl⟩⟩
    rw [Hs.out] at b1
    rw [Hs.out]
    have Hl := hd (show s.1.length = 256 by rw [← Hs.out, Aes.boxRun_len])
    by_cases hlt : k < 255
    · have p0 := n8_ilt (s.2.1 ^^^ Aes.twice s.2.1)
      have c1 := b1.arr_cell (n8 (s.2.1 ^^^ Aes.twice s.2.1)) (by rw [Hl.out]; exact n8_lt _)
      have f1 := b1.frozen (n8 (s.2.1 ^^^ Aes.twice s.2.1))
      go_wp2_with (first | (go_at_call 68; refine (twice_any _ _).mono ?_; rintro e w' ⟨rfl, rfl⟩) | (go_at_call 84; refine (turned_any _ _ (by omega) (by omega) _).mono ?_; rintro e w' ⟨rfl, m, rfl⟩))
      go_roundw
      case rel => exact ⟨k + 1, by omega, by go_num, by rw [Aes.boxRun_succ, Hs.out]; rfl, by rw [Aes.boxRun_succ, Hs.out]; rfl, by rw [Aes.boxRun_succ, Hs.out]; exact (b1.drewN _).arr_set _ _, (b2.drewN _).far (by simp) _, (below_drewN hB _).setCell (by simp) _⟩
      case measure => simp [intOf]; omega
    · have e5 : k = 255 := by omega
      subst e5
      have c1 := b1.arr_cell 0 (by rw [Hl.out]; omega)
      have f1 := b1.frozen 0
      have Hl2 := hd (show (s.1.set 0 0x63).length = 256 by rw [List.length_set, Hl.out])
      have b3 := b1.arr_set 0 0x63
      have b4 := b2.far (p := ⟨w.heap.size + 1, 0, none⟩) (by simp) (.int .u8 (n8 0x63))
      have hB4 := hB.setCell (p := ⟨w.heap.size + 1, 0, none⟩) (by simp) (.int .u8 (n8 0x63))
      go_wp2_with (first | (refine wpl_load_arr rfl 131 _ rfl _ rfl 256 ty256 (s.1.set 0 0x63) Hl2.out b3.cells_arr ?_) | (refine wpl_store_arr rfl 131 _ _ rfl w.heap.size (s.1.set 0 0x63) rfl rfl 131 _ b4 256 ty256.size Hl2.out (by rw [arr_size]; exact List.length_replicate) ?_))
      exact ret_arr rfl w.heap.size rfl ty256 _ Hl2.out (b4.setRow _).cells_arr rfl ⟨by rw [Aes.sbox_eq, ← Hs.out], below_setRow hB4 (by omega) _⟩

theorem wrap_u8_nat (k : Nat) : IntKind.u8.wrap (k : Int) = ((n8 (UInt8.ofNat k) : Nat) : Int) := by
  rw [wrap_n8, BitVec.ofInt_natCast]; rfl
end Go.Proofs.YthigbggacgiamaaDoor

namespace Go.Proofs.YthigbggacgiamaaDoor
open Go.RowKit
set_option maxHeartbeats 400000 in
set_option maxRecDepth 100000 in
theorem with_any (a b : List UInt8) (ha : a.length = 16) (hb : b.length = 16) (w : World) :
    Calls Tryd.prog 73 #[.agg (arr a), .agg (arr b)] w fun e w' => e = .returned (.agg (arr (Aes.xor16 a b))) ∧ Below w.heap.size w w' := by
  have Ha := hd ha
  have Hb := hd hb
  clear ha hb
  go_enter Tryd.func73, Tryd.ntmps73
  go_wp2
  go_loopw [6] (fun i wr => ∃ k : Nat, k ≤ 16 ∧ i = .int .i64 k ∧ Blk wr w.heap.size 87 (arr (iter (Aes.xorStep b) k a)) ∧ Blk wr (w.heap.size + 1) 87 (arr b) ∧
      Blk wr (w.heap.size + 1 + 1) 87 (arr (List.replicate 16 0)) ∧ Below w.heap.size w wr) (fun i _ => 16 - (intOf i).toNat)
  case atStart =>
    refine ⟨0, by omega, rfl, ?_, ?_, ?_, ?_⟩
    · exact ((Blk.nu (by simp)).alloc _).alloc _
    · exact (Blk.nu (by simp)).alloc _
    · exact Blk.nu (by simp)
    · exact (((Below.refl _ _).alloc (by simp) _).alloc (by simp) _).alloc (by simp; omega) _
  case round =>
    obtain ⟨k, hk, rfl, b1, b2, b3, hB⟩ := hrel
    have Hsz := hd (show (arr (iter (Aes.xorStep b) 16 a)).size = 16 by rw [arr_size, Aes.xorStep_len, Ha.out])
    by_cases hlt : k < 16
    · have c1 := b1.arr_cell k (by rw [Aes.xorStep_len, Ha.out]; exact hlt)
      have c2 := b2.arr_cell k (by rw [Hb.out]; exact hlt)
      have f1 := b1.frozen k
      go_wp2
      go_still_tail 8, (by kernel_rfl)
      change wpList _ _ _ _ _ wr.drew
      go_wp2
      go_roundw
      case rel =>
        exact ⟨k + 1, by omega, by go_num, b1.drew.arr_set k _, b2.drew.far (by simp) _, b3.drew.far (by simp; omega) _, hB.drew.setCell (by simp) _⟩
      case measure => simp [intOf]; omega
    · have hk16 : k = 16 := by omega
      subst hk16
      go_wp2_with (first | (refine wpList_load_row rfl 87 _ rfl w.heap.size rfl 87 _ _ _ b1.is Tryd.underlying87 rfl (by rw [Hsz.out]; kernel_rfl) ?_) | (refine wpList_store_row rfl 87 _ _ rfl (w.heap.size+1+1) _ rfl rfl 87 _ b3.is (by rw [Hsz.out]; kernel_rfl) ?c1 ?c2 ?_))
      case c1 => rw [Hsz.out]; rfl
      case c2 => exact arr_one _
      exact bodyPost_ret (results_cell_row rfl _ _ (w.heap.size+1+1) 87 _ _ _ rfl (b3.setRow _).is Tryd.underlying87 rfl (by rw [Hsz.out]; kernel_rfl)) rfl ⟨by rw [Aes.xor16_eq], below_setRow hB (by omega) _⟩

theorem mixRow_yes (c : Nat) (x f : UInt8) (r : Nat) (b : List UInt8) (h : r < 3) : Aes.mixRow c x f r b = b.set (c + r) (nth b (c + r) ^^^ (x ^^^ Aes.twice (nth b (c + r) ^^^ nth b (c + r + 1)))) := by simp [Aes.mixRow, h]
theorem mixRow_no (c : Nat) (x f : UInt8) (b : List UInt8) : Aes.mixRow c x f 3 b = b.set (c + 3) (nth b (c + 3) ^^^ (x ^^^ Aes.twice (nth b (c + 3) ^^^ f))) := by simp [Aes.mixRow]
theorem mixCol_eq (j : Nat) (b : List UInt8) : Aes.mixCol j b = iter (Aes.mixRow (4 * j) (nth b (4 * j) ^^^ nth b (4 * j + 1) ^^^ nth b (4 * j + 2) ^^^ nth b (4 * j + 3)) (nth b (4 * j))) 4 b := rfl
set_option maxHeartbeats 1000000 in
set_option maxRecDepth 100000 in
theorem mixed_any (b : List UInt8) (hb : b.length = 16) (w : World) :
    Calls Tryd.prog 74 #[.agg (arr b)] w fun e w' => e = .returned (.agg (arr (Aes.mix b))) ∧ Below w.heap.size w w' := by
  have Hb := hd hb
  clear hb
  go_enter Tryd.func74, Tryd.ntmps74
  go_wp2
  go_loopw [3] (fun i wr => ∃ k : Nat, k ≤ 4 ∧ i = .int .i64 (4 * (k : Int)) ∧ Blk wr w.heap.size 87 (arr (iter Aes.mixCol k b)) ∧
      Blk wr (w.heap.size + 1) 87 (arr (List.replicate 16 0)) ∧ Below w.heap.size w wr) (fun i _ => 16 - (intOf i).toNat)
  case atStart =>
    refine ⟨0, by omega, rfl, ?_, ?_, ?_⟩
    · exact (Blk.nu (by simp)).alloc _
    · exact Blk.nu (by simp)
    · exact ((Below.refl _ _).alloc (by simp) _).alloc (by simp) _
  case round =>
    obtain ⟨k, hk, rfl, b1, b2, hB⟩ := hrel
    obtain ⟨s, Hs⟩ : ∃ s, Hd (iter Aes.mixCol k b = s) := ⟨_, ⟨rfl⟩⟩
    rw [Hs.out] at b1
    have Hl := hd (show s.length = 16 by rw [← Hs.out, Aes.mixCol_len, Hb.out])
    by_cases hlt : k < 4
    · have c0 := b1.arr_cell (4 * k) (by rw [Hl.out]; omega)
      have c1 := b1.arr_cell (4 * k + 1) (by rw [Hl.out]; omega)
      have c2 := b1.arr_cell (4 * k + 2) (by rw [Hl.out]; omega)
      have c3 := b1.arr_cell (4 * k + 3) (by rw [Hl.out]; omega)
      have t9 : 4 * (k : Int) < 16 := by omega
      go_wp2
      go_quiet (fail)
      go_wp2
      obtain ⟨X, HX⟩ : ∃ X, Hd (nth s (4 * k) ^^^ nth s (4 * k + 1) ^^^ nth s (4 * k + 2) ^^^ nth s (4 * k + 3) = X) := ⟨_, ⟨rfl⟩⟩
      obtain ⟨F, HF⟩ : ∃ F, Hd (nth s (4 * k) = F) := ⟨_, ⟨rfl⟩⟩
      rw [HX.out]
      rw [HF.out]
      have b1 := b1.drewN nq
      have b2 := b2.drewN nq
      have hB := below_drewN hB nq
      clear c0 c1 c2 c3
      generalize wr.drewN nq = wo at b1 b2 hB
      go_loopw [33] (fun i wr => ∃ r : Nat, r ≤ 4 ∧ i = .int .i64 (r : Int) ∧ Blk wr w.heap.size 87 (arr (iter (Aes.mixRow (4 * k) X F) r s)) ∧
        Blk wr (w.heap.size + 1) 87 (arr (List.replicate 16 0)) ∧ Below w.heap.size w wr) (fun i _ => 4 - (intOf i).toNat)
      case atStart => exact ⟨0, by omega, rfl, b1, b2, hB⟩
      case round =>
        obtain ⟨r, hr, rfl, b1, b2, hB⟩ := hrel
        obtain ⟨t, Ht⟩ : ∃ t, Hd (iter (Aes.mixRow (4 * k) X F) r s = t) := ⟨_, ⟨rfl⟩⟩
        rw [Ht.out] at b1
        have Htl := hd (show t.length = 16 by rw [← Ht.out, Aes.mixRow_len, Hl.out])
        by_cases hr4 : r < 4
        · have c0 := b1.arr_cell (4 * k + r) (by rw [Htl.out]; omega)
          have f0 := b1.frozen (4 * k + r)
          by_cases hr3 : r < 3
          · have c1 := b1.arr_cell (4 * k + r + 1) (by rw [Htl.out]; omega)
            go_wp2
            have w1 : IntKind.i64.wrap (4 * (k : Int) + (r : Int)) = 4 * (k : Int) + (r : Int) := IntWalk.i64_in _ (by omega)
            have w2 : (4 * (k : Int) + (r : Int)).toNat = 4 * k + r := by omega
            have w3 : 0 ≤ 4 * (k : Int) + (r : Int) := by omega
            have w4 : 4 * (k : Int) + (r : Int) < 16 := by omega
            go_still_tail 17, (by kernel_rfl)
            still_call ((twice_any _ _).mono (by rintro e w' ⟨rfl, rfl⟩; exact ⟨rfl, rfl⟩))
            repeat still_step
            refine wpStill_nil ?_
            change wpList _ _ _ _ _ wr.drew
            go_wp2
            clear w1 w2 w3 w4
            go_roundw
            case rel => exact ⟨r + 1, by omega, by go_num, by rw [show iter (Aes.mixRow (4 * k) X F) (r + 1) s = _ from by rw [iter, Ht.out, mixRow_yes _ _ _ _ _ hr3]]; exact b1.drew.arr_set _ _, b2.drew.far (by simp) _, hB.drew.setCell (by simp) _⟩
            case measure => simp [intOf]; omega
          · have e3 : r = 3 := by omega
            subst e3
            go_wp2
            have w1 : IntKind.i64.wrap (4 * (k : Int) + 3) = 4 * (k : Int) + 3 := IntWalk.i64_in _ (by omega)
            have w2 : (4 * (k : Int) + 3).toNat = 4 * k + 3 := by omega
            have w3 : 0 ≤ 4 * (k : Int) + 3 := by omega
            have w4 : 4 * (k : Int) + 3 < 16 := by omega
            go_still_tail 17, (by kernel_rfl)
            still_call ((twice_any _ _).mono (by rintro e w' ⟨rfl, rfl⟩; exact ⟨rfl, rfl⟩))
            repeat still_step
            refine wpStill_nil ?_
            change wpList _ _ _ _ _ wr.drew
            go_wp2
            clear w1 w2 w3 w4
            go_roundw
            case rel => exact ⟨4, by omega, by go_num, by rw [show iter (Aes.mixRow (4 * k) X F) 4 s = _ from by rw [iter, Ht.out, mixRow_no]]; exact b1.drew.arr_set _ _, b2.drew.far (by simp) _, hB.drew.setCell (by simp) _⟩
            case measure => simp [intOf]
        · have e4 : r = 4 := by omega
          subst e4
          go_wp2
          go_roundw
          case rel => exact ⟨k + 1, by omega, by rw [show (4 * (k : Int) + 4) = 4 * ((k + 1 : Nat) : Int) by omega], by rw [iter, Hs.out, mixCol_eq, HX.out, HF.out, Ht.out]; exact b1, b2, hB⟩
          case measure => simp [intOf]; omega
    · have e4 : k = 4 := by omega
      subst e4
      have Hsz := hd (show (arr s).size = 16 by rw [arr_size, Hl.out])
      go_wp2_with (first | (refine wpList_load_row rfl 87 _ rfl w.heap.size rfl 87 _ _ _ b1.is Tryd.underlying87 rfl (by rw [Hsz.out]; kernel_rfl) ?_) | (refine wpList_store_row rfl 87 _ _ rfl (w.heap.size+1) _ rfl rfl 87 _ b2.is (by rw [Hsz.out]; kernel_rfl) ?c1 ?c2 ?_))
      case c1 => rw [Hsz.out]; rfl
      case c2 => exact arr_one _
      exact bodyPost_ret (results_cell_row rfl _ _ (w.heap.size+1) 87 _ _ _ rfl (b2.setRow _).is Tryd.underlying87 rfl (by rw [Hsz.out]; kernel_rfl)) rfl ⟨by rw [← Hs.out, Aes.mix_eq], below_setRow hB (by omega) _⟩
end Go.Proofs.YthigbggacgiamaaDoor

namespace Go.Proofs.YthigbggacgiamaaDoor
open Go.RowKit
/-- Block g holds a key made ready: its round keys lie in a block of their own, behind it the box. -/
structure KeyAt (w : World) (g : Nat) (rs : List (List UInt8)) : Prop where
  ex : ∃ r c, r < w.heap.size ∧ Blk w g 135 (#[Value.slice (some ⟨r, 0, none⟩) rs.length c] ++ arr Aes.sbox) ∧ ∀ i, i < rs.length → (rs.getD i []).length = 16 ∧ Cells w ⟨r, i * 16, none⟩ ((rs.getD i []).map U8)
theorem KeyAt.below {w w' : World} {g : Nat} {rs : List (List UInt8)} (h : KeyAt w g rs) (hb : Below w.heap.size w w') : KeyAt w' g rs := by
  obtain ⟨r, c, hr, h1, h2⟩ := h.ex
  exact ⟨r, c, Nat.lt_of_lt_of_le hr hb.size, h1.below hb h1.lt, fun i hi => ⟨(h2 i hi).1, (h2 i hi).2.below hb hr⟩⟩
theorem sbox_len : Aes.sbox.length = 256 := by rw [Aes.sbox, List.length_set, Aes.boxRun_len]
theorem head_cell (v : Value) (l : List UInt8) : (#[v] ++ arr l)[0]? = some v := by
  rw [Array.getElem?_append_left (by simp)]; rfl
theorem box_cell (v : Value) (x : Nat) (hx : x < 256) : (#[v] ++ arr Aes.sbox)[1 + x]? = some (.int .u8 (n8 (nth Aes.sbox x))) := by
  rw [Array.getElem?_append_right (by simp), show 1 + x - (#[v] : Array Value).size = x by simp, arr_get _ _ (by rw [sbox_len]; exact hx)]
set_option maxHeartbeats 2000000 in
set_option maxRecDepth 100000 in
theorem encrypt_any (g : Nat) (rs : List (List UInt8)) (b : List UInt8) (hb : b.length = 16) (hrs : 1 ≤ rs.length) (hrl : rs.length ≤ 100) (w : World) (hk : KeyAt w g rs) :
    Calls Tryd.prog 61 #[.pointer (some ⟨g, 0, none⟩), .agg (arr b)] w fun e w' => e = .returned (.agg (arr (Aes.enc rs b))) ∧ Below w.heap.size w w' := by
  have Hb := hd hb
  clear hb
  obtain ⟨r, c, hr, k1, k2⟩ := hk.ex
  obtain ⟨n, Hn⟩ : ∃ n, Hd (rs.length = n) := ⟨_, ⟨rfl⟩⟩
  rw [Hn.out] at k1 k2 hrs hrl
  have hg := k1.lt
  have cs : w.cell? ⟨g, 0, none⟩ = some (.slice (some ⟨r, 0, none⟩) n c) := (k1.cell 0).trans (head_cell _ _)
  have hl0 : (0 : Int) < (n : Int) := by omega
  have hl1 : 0 < n := by omega
  obtain ⟨hl00, hc0⟩ := k2 0 (by omega)
  obtain ⟨q0, Hq0⟩ : ∃ q, Hd (rs.getD 0 [] = q) := ⟨_, ⟨rfl⟩⟩
  rw [Hq0.out] at hl00 hc0
  have Hl0 := hd hl00
  have K2 := hd k2
  clear hl00 k2
  clear hk
  go_enter Tryd.func61, Tryd.ntmps61
  go_wp2
  refine wp_name (fun wo => Blk wo w.heap.size 87 (arr b) ∧ Blk wo (w.heap.size + 1) 87 (arr (List.replicate 16 0)) ∧ Below w.heap.size w wo) ⟨(Blk.nu (by simp)).alloc _, Blk.nu (by simp), ((Below.refl _ _).alloc (by simp) _).alloc (by simp) _⟩ ?_
  rintro wo ⟨b3, b4, hB⟩
  have csw : wo.cell? ⟨g, 0, none⟩ = some (.slice (some ⟨r, 0, none⟩) n c) := (hB.cell (p := ⟨g, 0, none⟩) hg).trans cs
  go_still_tail 7, (by kernel_rfl)
  refine still_load_arr rfl 87 _ rfl _ rfl 16 ty16 b Hb.out b3.drew.cells_arr ?_
  repeat still_step
  refine still_load_arr rfl 87 _ rfl _ rfl 16 ty16 q0 Hl0.out (hc0.below hB hr).drew ?_
  refine wpStill_nil ?_
  change wpList _ _ _ _ _ wo.drew
  simp only [Act.put, List.setIfInBounds_toArray, List.set_cons_zero, List.set_cons_succ]
  go_wp2_with fail
  refine (with_any _ _ Hb.out Hl0.out _).mono ?_
  rintro e w1 ⟨rfl, hB1⟩
  have X0l := hd (show (Aes.xor16 b q0).length = 16 by rw [Aes.xor16_len, Hb.out])
  have b31 := b3.drew.below hB1 b3.drew.lt
  have b41 := b4.drew.below hB1 b4.drew.lt
  have hB2 := hB.drew.trans (hB1.mono hB.size)
  clear hB1 b3 b4 hB csw
  go_wp2_with ((refine wpl_store_arr rfl 87 _ _ rfl w.heap.size (Aes.xor16 b q0) rfl rfl 87 _ b31 16 ty16.size X0l.out (by rw [arr_size]; exact Hb.out) ?_); refine wpl_name (fun wx => Blk wx w.heap.size 87 (arr (Aes.xor16 b q0)) ∧ Blk wx (w.heap.size + 1) 87 (arr (List.replicate 16 0)) ∧ Below w.heap.size w wx ∧ wx.cell? ⟨g, 0, none⟩ = some (.slice (some ⟨r, 0, none⟩) n c)) ⟨b31.setRow _, b41.farRow (by omega) _, below_setRow hB2 (by omega) _, ((below_setRow hB2 (Nat.le_refl _) _).cell (p := ⟨g, 0, none⟩) hg).trans cs⟩ ?_; rintro wx ⟨b32, b42, hB3, csx⟩)
  clear csx
  go_loopw [6] (fun i wr => ∃ k : Nat, k + 1 ≤ n ∧ i = .int .i64 ((k : Int) + 1) ∧ Blk wr w.heap.size 87 (arr (Aes.encRun rs b k)) ∧
      Blk wr (w.heap.size + 1) 87 (arr (List.replicate 16 0)) ∧ Below w.heap.size w wr) (fun i _ => n - (intOf i).toNat)
  case atStart => exact ⟨0, by omega, rfl, by rw [Aes.encRun_zero, Hq0.out]; exact b32, b42, hB3⟩
  case round =>
    obtain ⟨k, hkn, rfl, b1, b2, hB⟩ := hrel
    obtain ⟨s, Hs⟩ : ∃ s, Hd (Aes.encRun rs b k = s) := ⟨_, ⟨rfl⟩⟩
    rw [Hs.out] at b1
    have Hl := hd (show s.length = 16 by rw [← Hs.out, Aes.encRun_len _ _ Hb.out])
    by_cases hlt : k + 1 < n
    · have t1 : (k : Int) + 1 ≤ (n : Int) - 1 := by omega
      have hsz := b2.lt
      go_wp2
      refine wp_name (fun wo => Blk wo w.heap.size 87 (arr s) ∧ Blk wo (w.heap.size + 1) 87 (arr (List.replicate 16 0)) ∧ Below w.heap.size w wo ∧ Blk wo wr.heap.size 87 (arr (List.replicate 16 0))) ⟨b1.alloc _, b2.alloc _, hB.alloc (by omega) _, Blk.nu rfl⟩ ?_
      rintro wo ⟨c1, c2, hC, c3⟩
      generalize wr.heap.size = z at *
      clear b1 b2 hB
      go_loopw [28] (fun i wi => ∃ j : Nat, j ≤ 16 ∧ i = .int .i64 (j : Int) ∧ Blk wi w.heap.size 87 (arr s) ∧ Blk wi (w.heap.size + 1) 87 (arr (List.replicate 16 0)) ∧ Below w.heap.size w wi ∧
        Blk wi z 87 (arr (iter (Aes.subStep s) j (List.replicate 16 0)))) (fun i _ => 16 - (intOf i).toNat)
      case atStart => exact ⟨0, by omega, rfl, c1, c2, hC, c3⟩
      case round =>
        clear c1 c2 c3 hC
        obtain ⟨j, hj, rfl, d1, d2, hD, d3⟩ := hrel
        obtain ⟨t, Ht⟩ : ∃ t, Hd (iter (Aes.subStep s) j (List.replicate 16 0) = t) := ⟨_, ⟨rfl⟩⟩
        rw [Ht.out] at d3
        have Htl := hd (show t.length = 16 by rw [← Ht.out, Aes.subStep_len]; exact List.length_replicate)
        have csi : wr.cell? ⟨g, 0, none⟩ = some (.slice (some ⟨r, 0, none⟩) n c) := (hD.cell (p := ⟨g, 0, none⟩) hg).trans cs
        by_cases hj16 : j < 16
        · obtain ⟨m, Hm⟩ : ∃ m, Hd (5 * j % 16 = m) := ⟨_, ⟨rfl⟩⟩
          have hm : m < 16 := by rw [← Hm.out]; omega
          have hmi : (m : Int) < 16 := by omega
          have hji : (j : Int) < 16 := by omega
          obtain ⟨x, Hx⟩ : ∃ x, Hd (nth s m = x) := ⟨_, ⟨rfl⟩⟩
          have e1 := d1.arr_cell m (by rw [Hl.out]; exact hm)
          rw [Hx.out] at e1
          have e2 : wr.cell? ⟨g, 1 + n8 x, none⟩ = some (.int .u8 (n8 (nth Aes.sbox (n8 x)))) := ((hD.cell (p := ⟨g, 1 + n8 x, none⟩) hg).trans (k1.cell _)).trans (box_cell _ _ (n8_lt x))
          have e3 := d3.arr_cell j (by rw [Htl.out]; exact hj16)
          have f3 := d3.frozen j
          have hx := n8_ilt x
          have w2 : (5 * (j : Int)).tmod 16 = (m : Int) := by
            rw [← Hm.out, Int.tmod_eq_emod_of_nonneg (by omega)]; omega
          have w1 : IntKind.i64.wrap (5 * (j : Int)) = 5 * (j : Int) := IntWalk.i64_in _ (by omega)
          have w3 : IntKind.i64.wrap (m : Int) = (m : Int) := IntWalk.i64_in _ (by omega)
          go_wp2
          go_still_tail 12, (by kernel_rfl)
          change wpList _ _ _ _ _ wr.drew
          go_wp2
          clear w1 w2 w3
          go_roundw
          case rel => exact ⟨j + 1, by omega, by go_num, d1.drew.far (by simp; omega) _, d2.drew.far (by simp; omega) _, hD.drew.setCell (by simp; omega) _, by rw [iter, Ht.out, Aes.subStep, Hm.out, Hx.out]; exact d3.drew.arr_set _ _⟩
          case measure => simp [intOf]; omega
        · have e16 : j = 16 := by omega
          subst e16
          have Hts := hd (show Aes.sub s = t by rw [Aes.sub_eq]; exact Ht.out)
          have kC := Hd.out K2 (k + 1) hlt
          obtain ⟨kl, kc⟩ := kC
          obtain ⟨q, Hq⟩ : ∃ q, Hd (rs.getD (k + 1) [] = q) := ⟨_, ⟨rfl⟩⟩
          rw [Hq.out] at kl kc
          have Hql := hd kl
          clear kl
          have hki : (k : Int) + 1 < (n : Int) := by omega
          have hk0 : 0 ≤ (k : Int) + 1 := by omega
          have hkt : ((k : Int) + 1).toNat = k + 1 := by omega
          by_cases hlast : k + 1 < n - 1
          · have ti : (k : Int) + 1 < (n : Int) - 1 := by omega
            go_wp2_with (refine wpl_load_arr rfl 87 _ rfl _ rfl 16 ty16 t Htl.out d3.cells_arr ?_)
            refine (mixed_any t Htl.out _).mono ?_
            rintro e w4 ⟨rfl, hB4⟩
            obtain ⟨mt, Hmt⟩ : ∃ q, Hd (Aes.mix t = q) := ⟨_, ⟨rfl⟩⟩
            rw [Hmt.out]
            have Hml := hd (show mt.length = 16 by rw [← Hmt.out, Aes.mix_len, Htl.out])
            have d14 := d1.below hB4 d1.lt
            have d24 := d2.below hB4 d2.lt
            have d34 := d3.below hB4 d3.lt
            have hD4 := hD.trans (hB4.mono hD.size)
            have Hstep := hd (show Aes.roundStep rs k s = Aes.xor16 mt q by rw [Aes.roundStep, if_pos (by rw [Hn.out]; exact hlast), Hts.out, Hmt.out, Hq.out])
            clear d1 d2 d3 hD hB4 csi
            go_wp2_with ((refine wpl_store_arr rfl 87 _ _ rfl z mt rfl rfl 87 _ d34 16 ty16.size Hml.out (by rw [arr_size, Htl.out]) ?_); refine wpl_name (fun wx => Blk wx w.heap.size 87 (arr s) ∧ Blk wx (w.heap.size + 1) 87 (arr (List.replicate 16 0)) ∧ Blk wx z 87 (arr mt) ∧ Below w.heap.size w wx) ⟨d14.farRow (by omega) _, d24.farRow (by omega) _, d34.setRow _, below_setRow hD4 (by omega) _⟩ ?_; rintro wx ⟨d1, d2, d3, hD⟩)
            have csi : wx.cell? ⟨g, 0, none⟩ = some (.slice (some ⟨r, 0, none⟩) n c) := (hD.cell (p := ⟨g, 0, none⟩) hg).trans cs
            go_still_tail 8, (by kernel_rfl)
            refine still_load_arr rfl 87 _ rfl _ rfl 16 ty16 mt Hml.out d3.drew.cells_arr ?_
            repeat still_step
            refine still_load_arr rfl 87 _ rfl _ rfl 16 ty16 q Hql.out (kc.below hD hr).drew ?_
            refine wpStill_nil ?_
            change wpList _ _ _ _ _ wx.drew
            simp only [Act.put, List.setIfInBounds_toArray, List.set_cons_zero, List.set_cons_succ]
            go_wp2_with fail
            refine (with_any mt q Hml.out Hql.out _).mono ?_
            rintro e w5 ⟨rfl, hB5⟩
            obtain ⟨xr, Hxr⟩ : ∃ v, Hd (Aes.xor16 mt q = v) := ⟨_, ⟨rfl⟩⟩
            rw [Hxr.out]
            have Hxl := hd (show xr.length = 16 by rw [← Hxr.out, Aes.xor16_len, Hml.out])
            have d15 := d1.drew.below hB5 d1.lt
            have d25 := d2.drew.below hB5 d2.lt
            have hD5 := hD.drew.trans (hB5.mono hD.size)
            clear d1 d2 d3 hD hB5 csi
            go_wp2_with (refine wpl_store_arr rfl 87 _ _ rfl w.heap.size xr rfl rfl 87 _ d15 16 ty16.size Hxl.out (by rw [arr_size, Hl.out]) ?_)
            go_roundw
            case rel => exact ⟨k + 1, by omega, by go_num, by rw [Aes.encRun_succ, Hs.out, Hstep.out, Hxr.out]; exact d15.setRow _, d25.farRow (by omega) _, below_setRow hD5 (by omega) _⟩
            case measure => simp [intOf]; omega
          · have ti : (n : Int) - 1 ≤ (k : Int) + 1 := by omega
            have Hstep := hd (show Aes.roundStep rs k s = Aes.xor16 t q by rw [Aes.roundStep, if_neg (by rw [Hn.out]; exact hlast), Hts.out, Hq.out])
            go_wp2_with fail
            refine wp_name (fun wx => Blk wx w.heap.size 87 (arr s) ∧ Blk wx (w.heap.size + 1) 87 (arr (List.replicate 16 0)) ∧ Blk wx z 87 (arr t) ∧ Below w.heap.size w wx) ⟨d1, d2, d3, hD⟩ ?_
            clear d1 d2 d3 hD csi
            rintro wx ⟨d1, d2, d3, hD⟩
            have csi : wx.cell? ⟨g, 0, none⟩ = some (.slice (some ⟨r, 0, none⟩) n c) := (hD.cell (p := ⟨g, 0, none⟩) hg).trans cs
            go_still_tail 8, (by kernel_rfl)
            refine still_load_arr rfl 87 _ rfl _ rfl 16 ty16 t Htl.out d3.drew.cells_arr ?_
            repeat still_step
            refine still_load_arr rfl 87 _ rfl _ rfl 16 ty16 q Hql.out (kc.below hD hr).drew ?_
            refine wpStill_nil ?_
            change wpList _ _ _ _ _ wx.drew
            simp only [Act.put, List.setIfInBounds_toArray, List.set_cons_zero, List.set_cons_succ]
            go_wp2_with fail
            refine (with_any t q Htl.out Hql.out _).mono ?_
            rintro e w5 ⟨rfl, hB5⟩
            obtain ⟨xr, Hxr⟩ : ∃ v, Hd (Aes.xor16 t q = v) := ⟨_, ⟨rfl⟩⟩
            rw [Hxr.out]
            have Hxl := hd (show xr.length = 16 by rw [← Hxr.out, Aes.xor16_len, Htl.out])
            have d15 := d1.drew.below hB5 d1.lt
            have d25 := d2.drew.below hB5 d2.lt
            have hD5 := hD.drew.trans (hB5.mono hD.size)
            clear d1 d2 d3 hD hB5 csi
            go_wp2_with (refine wpl_store_arr rfl 87 _ _ rfl w.heap.size xr rfl rfl 87 _ d15 16 ty16.size Hxl.out (by rw [arr_size, Hl.out]) ?_)
            go_roundw
            case rel => exact ⟨k + 1, by omega, by go_num, by rw [Aes.encRun_succ, Hs.out, Hstep.out, Hxr.out]; exact d15.setRow _, d25.farRow (by omega) _, below_setRow hD5 (by omega) _⟩
            case measure => simp [intOf]; omega
    · have en : n = k + 1 := by omega
      have t1 : (n : Int) - 1 < (k : Int) + 1 := by omega
      have Henc := hd (show Aes.enc rs b = s by rw [Aes.enc, Hn.out, en]; exact Hs.out)
      have Hen := hd en
      clear en
      go_wp2_with (first | (refine wpl_load_arr rfl 87 _ rfl _ rfl 16 ty16 s Hl.out b1.cells_arr ?_) | (refine wpl_store_arr rfl 87 _ _ rfl (w.heap.size + 1) s rfl rfl 87 _ b2 16 ty16.size Hl.out (by rw [arr_size]; exact List.length_replicate) ?_))
      exact ret_arr rfl (w.heap.size + 1) rfl ty16 _ Hl.out (b2.setRow _).cells_arr rfl ⟨by rw [Henc.out], below_setRow hB (by omega) _⟩
end Go.Proofs.YthigbggacgiamaaDoor

namespace Go.Proofs.YthigbggacgiamaaDoor
open Go.RowKit
set_option maxHeartbeats 400000 in
set_option maxRecDepth 100000 in
theorem new_refused (A : Option Addr) (n c : Nat) (w : World) (h16 : n ≠ 16) (h32 : n ≠ 32) :
    Calls Tryd.prog 59 #[.slice A n c] w fun e w' => e = .returned (.tuple #[.pointer none, .int .i64 1]) ∧ w = w' := by
  have t1 : ((n : Int) == 16) = false := by rw [beq_eq_false_iff_ne]; omega
  have t2 : ((n : Int) == 32) = false := by rw [beq_eq_false_iff_ne]; omega
  have t3 : ((n : Int) != 16) = true := by rw [bne, t1]; rfl
  have t4 : ((n : Int) != 32) = true := by rw [bne, t2]; rfl
  go_enter Tryd.func59, Tryd.ntmps59
  go_wp2
  go_ret2
  exact ⟨rfl, rfl⟩
/-- As KeyAt, and that the key lies in blocks from B on. -/
structure KeyFrom (w : World) (B g : Nat) (rs : List (List UInt8)) : Prop where
  ex : ∃ r c, B ≤ r ∧ B ≤ g ∧ r < w.heap.size ∧ Blk w g 135 (#[Value.slice (some ⟨r, 0, none⟩) rs.length c] ++ arr Aes.sbox) ∧ ∀ i, i < rs.length → (rs.getD i []).length = 16 ∧ Cells w ⟨r, i * 16, none⟩ ((rs.getD i []).map U8)
theorem KeyFrom.at_ {w : World} {B g : Nat} {rs : List (List UInt8)} (h : KeyFrom w B g rs) : KeyAt w g rs := by
  obtain ⟨r, c, _, _, h1, h2, h3⟩ := h.ex
  exact ⟨r, c, h1, h2, h3⟩
theorem KeyFrom.below {w w' : World} {B g : Nat} {rs : List (List UInt8)} (h : KeyFrom w B g rs) (hb : Below w.heap.size w w') : KeyFrom w' B g rs := by
  obtain ⟨r, c, h1, h2, hr, h3, h4⟩ := h.ex
  exact ⟨r, c, h1, h2, Nat.lt_of_lt_of_le hr hb.size, h3.below hb h3.lt, fun i hi => ⟨(h4 i hi).1, (h4 i hi).2.below hb hr⟩⟩
/-- A block below B may be written. -/
theorem KeyFrom.moved {w w' : World} {B g z : Nat} {rs : List (List UInt8)} (h : KeyFrom w B g rs) (hg : w.grownBy w' (some z)) (hz : z < B) : KeyFrom w' B g rs := by
  obtain ⟨r, c, h1, h2, hr, h3, h4⟩ := h.ex
  exact ⟨r, c, h1, h2, Nat.lt_of_lt_of_le hr hg.size, h3.grown hg (by intro e; injection e; omega), fun i hi => ⟨(h4 i hi).1, (h4 i hi).2.grown hg hr (by intro e; injection e with e; have e : r = z := e; omega)⟩⟩
/-- What the loop that makes the round keys knows: all of them in v, the key in block g, its box. -/
structure KeyInv (w : World) (B g : Nat) (v : Value) (al : List UInt8) (w0 : World) : Prop where
  own : OwnB w B v al
  key : Blk w g 135 (#[Value.slice none 0 0] ++ arr Aes.sbox)
  old : Below B w0 w
  lo : B ≤ g
theorem KeyInv.moved {w w' : World} {B g z : Nat} {v : Value} {al : List UInt8} {w0 : World} (h : KeyInv w B g v al w0) (hg : w.grownBy w' (some z)) (hz : g ≠ z) (hv : v.ownBlock ≠ some z) (hB : B ≤ z) : KeyInv w' B g v al w0 :=
  ⟨h.own.moved hg hv, h.key.grown hg (fun e => hz (by injection e)), below_moved h.old hg hB (by have := h.key.lt; have := h.lo; omega), h.lo⟩
theorem KeyInv.box {w : World} {B g : Nat} {v : Value} {al : List UInt8} {w0 : World} (h : KeyInv w B g v al w0) (x : UInt8) : w.cell? ⟨g, 1 + n8 x, none⟩ = some (.int .u8 (n8 (Aes.sb x))) := (h.key.cell _).trans (box_cell _ _ (n8_lt x))
theorem ownBlock_slice (G n c : Nat) : (Value.slice (some ⟨G, 0, none⟩) n c).ownBlock = some G := rfl
theorem key_cells (l : List UInt8) (hl : l.length = 256) : Tryd.prog.built 135 [(1, .agg (arr l))] = some (#[Value.slice none 0 0] ++ arr l) := by
  have hz : (List.replicate 256 (0 : UInt8)).length = 256 := List.length_replicate
  rw [built_key]
  generalize List.replicate 256 (0 : UInt8) = Z at hz ⊢
  have h1 : (arr l).toList.length = 256 := by rw [Array.length_toList, arr_size, hl]
  have h2 : (arr Z).toList.length = 256 := by rw [Array.length_toList, arr_size, hz]
  have hs : (#[Value.slice none 0 0] ++ arr Z).toList = Value.slice none 0 0 :: (arr Z).toList := by rw [Array.toList_append]; rfl
  rw [fill_cons _ _ 1 1 256 _ _ rfl (by show (arr l).size = 256; rw [arr_size, hl]) (by rw [Array.size_append, arr_size, hz]; exact Nat.le_of_eq (by decide))]
  rw [Instr.fill]
  congr 1
  show splice _ 1 (arr l).toList = _
  rw [splice, hs, h1, List.drop_eq_nil_of_le (by rw [List.length_cons, h2]; exact Nat.le_of_eq (by decide))]
  apply Array.ext'
  rw [Array.toList_append, List.append_nil]; rfl
theorem u8_size : (Tryd.prog.info? 5).map (·.size) = some 1 := by kernel_rfl
theorem u8_noagg : ((Tryd.prog.underlying 5).map isAggD) = some false := by kernel_rfl
theorem a16_info : (Tryd.prog.info? 87).map (fun i => (i.zero, i.size, i.bytes)) = some (some (.agg (arr (List.replicate 16 0))), 16, 16) := by kernel_rfl
def lenOf : Value → Nat | .slice _ n _ => n | _ => 0
theorem list16 (l : List UInt8) (h : l.length = 16) : ∃ p0 p1 p2 p3 p4 p5 p6 p7 p8 p9 p10 p11 p12 p13 p14 p15, l = [p0, p1, p2, p3, p4, p5, p6, p7, p8, p9, p10, p11, p12, p13, p14, p15] := by
  match l, h with
  | [p0, p1, p2, p3, p4, p5, p6, p7, p8, p9, p10, p11, p12, p13, p14, p15], _ => exact ⟨p0, p1, p2, p3, p4, p5, p6, p7, p8, p9, p10, p11, p12, p13, p14, p15, rfl⟩
theorem head_set (v v' : Value) (l : List UInt8) : (#[v] ++ arr l).setIfInBounds 0 v' = #[v'] ++ arr l := by
  apply Array.ext'
  simp
theorem ownsRow_form {w : World} {base : Nat} {e : TypeId} {size : Nat} {v : Value} {n : Nat} {xs : List Value} (h : w.ownsRow base e size v n xs) (hn : 0 < n) : ∃ g cap, v = .slice (some ⟨g, 0, none⟩) n cap ∧ base ≤ g ∧ g < w.heap.size := by
  obtain ⟨g, cap, hv, hg, hlt⟩ := h.form hn
  exact ⟨g, cap, hv, hg, hlt⟩
theorem keyT_mid (n : Nat) (al : List UInt8) (one : UInt8) (h0 : ¬ al.length % n = 0) (h1 : n = 32) (h2 : al.length % n = 16) : Aes.keyT n al one = iter (Aes.sbStep (Aes.last4 al)) 4 (Aes.last4 al) := by
  rw [Aes.keyT, if_neg h0, if_pos ⟨h1, h2⟩]
end Go.Proofs.YthigbggacgiamaaDoor

