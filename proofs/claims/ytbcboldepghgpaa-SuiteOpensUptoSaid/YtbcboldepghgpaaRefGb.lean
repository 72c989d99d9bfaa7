/-
  The walks of the reference's small functions of Galois counter mode: one bit, one step up, a product.
-/
import Derived.Test.YtbcboldepghgpaaRefGa
import Derived.Test.YtbcboldepghgpaaGcmB
set_option linter.unusedVariables false
set_option linter.unusedSimpArgs false
set_option maxRecDepth 100000
namespace Go.Proofs.Ytbcboldepghgpaa
open Go.RowKit
set_option maxHeartbeats 2000000 in
set_option maxRecDepth 100000 in
theorem bit_any (b : List UInt8) (hb : b.length = 16) (i : Nat) (hi : i < 128) (w : World) :
    Calls Try.prog 96 #[.agg (arr b), .int .i64 (i : Int)] w fun e w' => e = .returned (.bool (Gf.co (Gcm.poly b) i)) ∧ Below w.heap.size w w' := by
  have b0 : Blk (w.alloc (.cells (arr b) 104)) w.heap.size 104 (arr b) := Blk.nu (by simp)
  have c0 := b0.arr_cell (i / 8) (by omega)
  have Hx := hd (Gcm.bit_is b i hi)
  obtain ⟨c, Hc⟩ : ∃ c, Hd (Gf.co (Gcm.poly b) i = c) := ⟨_, ⟨rfl⟩⟩
  rw [Hc.out] at Hx
  rw [Hc.out]
  obtain ⟨x, Hxx⟩ : ∃ x, Hd (nth b (i / 8) = x) := ⟨_, ⟨rfl⟩⟩
  rw [Hxx.out] at Hx c0
  have v1 : (i : Int).tdiv 8 = ((i / 8 : Nat) : Int) := by rw [Int.tdiv_eq_ediv_of_nonneg (by omega)]; omega
  have v2 : (i : Int).tmod 8 = ((i % 8 : Nat) : Int) := by rw [Int.tmod_eq_emod_of_nonneg (by omega)]; omega
  obtain ⟨q, Hq⟩ : ∃ q, Hd (i / 8 = q) := ⟨_, ⟨rfl⟩⟩
  obtain ⟨r, Hr⟩ : ∃ r, Hd (i % 8 = r) := ⟨_, ⟨rfl⟩⟩
  rw [Hq.out] at v1 c0
  rw [Hr.out] at v2 Hx
  have hq : q < 16 := by rw [← Hq.out]; omega
  have hr : r < 8 := by rw [← Hr.out]; omega
  have v3 : (q : Int) < 16 := by omega
  have v4 : IntKind.i64.wrap (q : Int) = (q : Int) := IntWalk.i64_in _ (by omega)
  have v5 : IntKind.i64.wrap (r : Int) = (r : Int) := IntWalk.i64_in _ (by omega)
  have v6 : (7 : Int) - (r : Int) = ((7 - r : Nat) : Int) := by omega
  have v7 : IntKind.i64.wrap ((7 - r : Nat) : Int) = ((7 - r : Nat) : Int) := IntWalk.i64_in _ (by omega)
  go_enter Try.func96, Try.ntmps96
  have hx : (shr8 x (7 - r) &&& 1 == 1) = c := by rw [Hx.out]; cases c <;> rfl
  have Hv := hd hx
  clear hx
  go_wp2
  go_ret
  exact ⟨by rw [← Hv.out]; rfl, ((Below.refl _ _).alloc (by simp) _)⟩
set_option maxHeartbeats 2000000 in
set_option maxRecDepth 100000 in
theorem up_any (a : List UInt8) (ha : a.length = 16) (w : World) :
    Calls Try.prog 97 #[.agg (arr a)] w fun e w' => e = .returned (.agg (arr (Gcm.upAll a))) ∧ Below w.heap.size w w' := by
  have Ha := hd ha
  clear ha
  obtain ⟨c, Hc⟩ : ∃ c, Hd (Gf.co (Gcm.poly a) 127 = c) := ⟨_, ⟨rfl⟩⟩
  obtain ⟨r, Hr⟩ : ∃ r, Hd (Gcm.upAll a = r) := ⟨_, ⟨rfl⟩⟩
  have Hrl := hd (show r.length = 16 by rw [← Hr.out, Gcm.upAll_len, Ha.out])
  rw [Hr.out]
  go_enter Try.func97, Try.ntmps97
  have h0 : Blk ((w.alloc (.cells (arr a) 104)).alloc (.cells (arr (List.replicate 16 0)) 104)) w.heap.size 104 (arr a) ∧ Blk ((w.alloc (.cells (arr a) 104)).alloc (.cells (arr (List.replicate 16 0)) 104)) (w.heap.size + 1) 104 (arr (List.replicate 16 0)) ∧ Below w.heap.size w ((w.alloc (.cells (arr a) 104)).alloc (.cells (arr (List.replicate 16 0)) 104)) :=
    ⟨(Blk.nu (by simp)).alloc _, Blk.nu (by simp), ((Below.refl _ _).alloc (by simp) _).alloc (by simp) _⟩
  go_wp2_with (first | (refine wpl_alloc rfl 104 rfl _ zero16 ?_; simp only [World.size_alloc]; refine wpl_name (fun wo => Blk wo w.heap.size 104 (arr a) ∧ Blk wo (w.heap.size + 1) 104 (arr (List.replicate 16 0)) ∧ Below w.heap.size w wo) h0 ?_; clear h0; rintro wo ⟨b0, b1, hB⟩) | (refine wpl_load_arr rfl 104 _ rfl _ rfl 16 ty16 a Ha.out b0.cells_arr ?_) | (go_at_call 96; refine (bit_any a Ha.out 127 (by omega) _).mono ?_; rintro e w5 ⟨rfl, hB5⟩; rw [Hc.out]; replace b0 := b0.below hB5 b0.lt; replace b1 := b1.below hB5 b1.lt; replace hB := hB.trans (hB5.mono hB.size)))
  go_loopw [4] (fun i wr => ∃ k : Nat, k ≤ 16 ∧ i = .int .i64 (15 - (k : Int)) ∧ Blk wr w.heap.size 104 (arr (iter Gcm.upStep k a)) ∧ Blk wr (w.heap.size + 1) 104 (arr (List.replicate 16 0)) ∧ Below w.heap.size w wr) (fun i _ => (intOf i + 1).toNat)
  case atStart => exact ⟨0, by omega, rfl, b0, b1, hB⟩
  case round =>
    clear b0 b1 hB
    obtain ⟨k, hk, rfl, b0, b1, hB⟩ := hrel
    obtain ⟨s, Hs⟩ : ∃ s, Hd (iter Gcm.upStep k a = s) := ⟨_, ⟨rfl⟩⟩
    rw [Hs.out] at b0
    have Hl := hd (show s.length = 16 by rw [← Hs.out, Gcm.upStep_len, Ha.out])
    by_cases hlt : k < 16
    · obtain ⟨j, Hj⟩ : ∃ j, Hd (15 - k = j) := ⟨_, ⟨rfl⟩⟩
      have hj : j < 16 := by rw [← Hj.out]; omega
      have ej : (15 : Int) - (k : Int) = (j : Int) := by have := Hj.out; omega
      have Hnx := hd (show iter Gcm.upStep (k + 1) a = s.set j (Gcm.upByte s j) by rw [iter, Hs.out, Gcm.upStep, Hj.out])
      rw [ej]
      have t0 : (0 : Int) ≤ (j : Int) := by omega
      have t1 : (j : Int) < 16 := by omega
      have d0 := b0.arr_cell j (by rw [Hl.out]; omega)
      have f0 := b0.frozen j
      by_cases h0 : j = 0
      · subst h0
        have tn : ¬ (0 : Int) < ((0 : Nat) : Int) := by omega
        go_wp2
        go_roundw
        case rel => exact ⟨k + 1, by omega, by go_num, by rw [Hnx.out]; exact b0.arr_set _ _, b1.far (by simp <;> omega) _, hB.setCell (by simp <;> omega) _⟩
        case measure => simp [intOf] <;> omega
      · have tp : (0 : Int) < (j : Int) := by omega
        have e1 : (j : Int) - 1 = ((j - 1 : Nat) : Int) := by omega
        have v1 : IntKind.i64.wrap ((j - 1 : Nat) : Int) = ((j - 1 : Nat) : Int) := IntWalk.i64_in _ (by omega)
        have t2 : ((j - 1 : Nat) : Int) < 16 := by omega
        have d1 := b0.arr_cell (j - 1) (by rw [Hl.out]; omega)
        have b2 := b0.arr_set j (nth s j >>> 1)
        have b3 := b1.far (p := ⟨w.heap.size, j, none⟩) (by simp <;> omega) (.int .u8 (n8 (nth s j >>> 1)))
        have hB2 := hB.setCell (p := ⟨w.heap.size, j, none⟩) (by simp <;> omega) (.int .u8 (n8 (nth s j >>> 1)))
        have d2 := b2.arr_cell j (by rw [List.length_set, Hl.out]; omega)
        have d3 := b2.arr_cell (j - 1) (by rw [List.length_set, Hl.out]; omega)
        rw [Aes.nth_set _ _ _ _ (by rw [Hl.out]; omega), if_pos rfl] at d2
        rw [Aes.nth_set _ _ _ _ (by rw [Hl.out]; omega), if_neg (by omega)] at d3
        have f2 := b2.frozen j
        go_wp2
        go_region
        go_wp2
        go_roundw
        case rel => exact ⟨k + 1, by omega, by go_num, by rw [Hnx.out, Gcm.upByte, if_neg h0]; have h := (b2.arr_set j (nth s j >>> 1 ||| nth s (j - 1) <<< 7)).drew; rw [List.set_set] at h; exact h, (b3.far (by simp <;> omega) _).drew, (hB2.setCell (by simp <;> omega) _).drew⟩
        case measure => simp [intOf] <;> omega
    · have ek : k = 16 := by omega
      subst ek
      have ej : (15 : Int) - ((16 : Nat) : Int) = -1 := by omega
      rw [ej]
      cases c
      · have Hfin := hd (show r = s by rw [← Hr.out, Gcm.upAll, Hc.out, if_neg (by decide), Hs.out])
        go_wp2_with (first | (refine wpl_load_arr rfl 104 _ rfl _ rfl 16 ty16 s Hl.out b0.cells_arr ?_) | (refine wpl_store_arr rfl 104 _ _ rfl (w.heap.size + 1) s rfl rfl 104 _ b1 16 ty16.size Hl.out (by rw [arr_size, List.length_replicate]) ?_))
        rw [Hfin.out]
        exact ret_arr rfl (w.heap.size + 1) rfl ty16 s Hl.out (b1.setRow _).cells_arr rfl ⟨rfl, below_setRow hB (by omega) _⟩
      · have Hfin := hd (show r = s.set 0 (nth s 0 ^^^ 225) by rw [← Hr.out, Gcm.upAll, Hc.out, if_pos rfl, Hs.out])
        obtain ⟨q, Hq⟩ : ∃ q, Hd (s.set 0 (nth s 0 ^^^ 225) = q) := ⟨_, ⟨rfl⟩⟩
        have Hql := hd (show q.length = 16 by rw [← Hq.out, List.length_set, Hl.out])
        have d0 := b0.arr_cell 0 (by rw [Hl.out]; omega)
        have f0 := b0.frozen 0
        have b2 := b0.arr_set 0 (nth s 0 ^^^ 225)
        rw [Hq.out] at b2
        have b3 := b1.far (p := ⟨w.heap.size, 0, none⟩) (by simp <;> omega) (.int .u8 (n8 (nth s 0 ^^^ 225)))
        have hB2 := hB.setCell (p := ⟨w.heap.size, 0, none⟩) (by simp <;> omega) (.int .u8 (n8 (nth s 0 ^^^ 225)))
        go_wp2_with (first | (refine wpl_load_arr rfl 104 _ rfl _ rfl 16 ty16 q Hql.out b2.cells_arr ?_) | (refine wpl_store_arr rfl 104 _ _ rfl (w.heap.size + 1) q rfl rfl 104 _ b3 16 ty16.size Hql.out (by rw [arr_size, List.length_replicate]) ?_))
        rw [Hfin.out, Hq.out]
        exact ret_arr rfl (w.heap.size + 1) rfl ty16 q Hql.out (b3.setRow _).cells_arr rfl ⟨rfl, below_setRow hB2 (by omega) _⟩
set_option maxHeartbeats 4000000 in
set_option maxRecDepth 100000 in
theorem refMul_any (a b : List UInt8) (ha : a.length = 16) (hb : b.length = 16) (w : World) :
    Calls Try.prog 86 #[.agg (arr a), .agg (arr b)] w fun e w' => e = .returned (.agg (arr (Gcm.mul a b))) ∧ Below w.heap.size w w' := by
  have Ha := hd ha
  have Hb := hd hb
  clear ha hb
  obtain ⟨r, Hr⟩ : ∃ r, Hd (Gcm.mul a b = r) := ⟨_, ⟨rfl⟩⟩
  have Hrl := hd (show r.length = 16 by rw [← Hr.out, Gcm.mul_len])
  have Hrp := hd (show Gcm.poly r = Gf.mulTo 128 (Gcm.poly a) (Gcm.poly b) by rw [← Hr.out, Gcm.poly_mul]; rfl)
  rw [Hr.out]
  obtain ⟨A, HA⟩ : ∃ x, Hd (Gcm.poly a = x) := ⟨_, ⟨rfl⟩⟩
  obtain ⟨B, HB⟩ : ∃ x, Hd (Gcm.poly b = x) := ⟨_, ⟨rfl⟩⟩
  rw [HA.out, HB.out] at Hrp
  obtain ⟨w3, H3⟩ : ∃ x, Hd ((((w.alloc (.cells (arr a) 104)).alloc (.cells (arr b) 104)).alloc (.cells (arr (List.replicate 16 0)) 104)).alloc (.cells (arr (List.replicate 16 0)) 104) = x) := ⟨_, ⟨rfl⟩⟩
  have h0 : Blk w3 w.heap.size 104 (arr a) ∧ Blk w3 (w.heap.size + 1) 104 (arr b) ∧ Blk w3 (w.heap.size + 1 + 1) 104 (arr (List.replicate 16 0)) ∧ Blk w3 (w.heap.size + 1 + 1 + 1) 104 (arr (List.replicate 16 0)) ∧ Below w.heap.size w w3 := by
    rw [← H3.out]
    exact ⟨(((Blk.nu (by simp)).alloc _).alloc _).alloc _, ((Blk.nu (by simp)).alloc _).alloc _, (Blk.nu (by simp)).alloc _, Blk.nu (by simp), ((((Below.refl _ _).alloc (by simp) _).alloc (by simp) _).alloc (by simp; omega) _).alloc (by simp; omega) _⟩
  rw [← H3.out] at h0
  go_enter Try.func86, Try.ntmps86
  go_wp2_with (first | (refine wpl_alloc rfl 104 rfl _ zero16 ?_; simp only [World.size_alloc]; first | (refine wpl_name (fun wo => Blk wo w.heap.size 104 (arr a) ∧ Blk wo (w.heap.size + 1) 104 (arr b) ∧ Blk wo (w.heap.size + 1 + 1) 104 (arr (List.replicate 16 0)) ∧ Blk wo (w.heap.size + 1 + 1 + 1) 104 (arr (List.replicate 16 0)) ∧ Below w.heap.size w wo) h0 ?_; clear h0; rintro wo ⟨b0, b1, b2, b3, hB⟩) | skip))
  go_loopw [6] (fun i wr => ∃ (k : Nat) (x o : List UInt8), k ≤ 128 ∧ i = .int .i64 (k : Int) ∧ x.length = 16 ∧ Gcm.poly x = Gf.upN k A ∧ o.length = 16 ∧ Gcm.poly o = Gf.mulTo k A B ∧ Blk wr w.heap.size 104 (arr x) ∧ Blk wr (w.heap.size + 1) 104 (arr b) ∧ Blk wr (w.heap.size + 1 + 1) 104 (arr (List.replicate 16 0)) ∧ Blk wr (w.heap.size + 1 + 1 + 1) 104 (arr o) ∧ Below w.heap.size w wr) (fun i _ => 128 - (intOf i).toNat)
  case atStart => exact ⟨0, a, List.replicate 16 0, by omega, rfl, Ha.out, HA.out, rfl, Gcm.poly_zeros, b0, b1, b2, b3, hB⟩
  case round =>
    clear b0 b1 b2 b3 hB
    obtain ⟨k, x, o, hk, rfl, hx1, hx2, ho1, ho2, b0, b1, b2, b3, hB⟩ := hrel
    have Hx1 := hd hx1
    have Hx2 := hd hx2
    have Ho1 := hd ho1
    have Ho2 := hd ho2
    clear hx1 hx2 ho1 ho2
    by_cases hlt : k < 128
    · have tk : (k : Int) < 128 := by omega
      obtain ⟨c, Hc⟩ : ∃ c, Hd (Gf.co (Gcm.poly b) k = c) := ⟨_, ⟨rfl⟩⟩
      cases c
      · obtain ⟨u, Hu⟩ : ∃ u, Hd (Gcm.upAll x = u) := ⟨_, ⟨rfl⟩⟩
        have Hul := hd (show u.length = 16 by rw [← Hu.out, Gcm.upAll_len, Hx1.out])
        have Hup := hd (show Gcm.poly u = Gf.upN (k + 1) A by rw [← Hu.out, Gcm.poly_up _ Hx1.out, Hx2.out]; rfl)
        have Hon := hd (show Gcm.poly o = Gf.mulTo (k + 1) A B by rw [Ho2.out, Gf.mulTo, ← HB.out, Hc.out, Gf.pick, if_neg (by decide), BitVec.xor_zero])
        go_wp2_with (first | (refine wpl_load_arr rfl 104 _ rfl _ rfl 16 ty16 b Hb.out b1.cells_arr ?_) | (go_at_call 96; refine (bit_any b Hb.out k hlt _).mono ?_; rintro e w5 ⟨rfl, hB5⟩; rw [Hc.out]; replace b0 := b0.below hB5 b0.lt; replace b1 := b1.below hB5 b1.lt; replace b2 := b2.below hB5 b2.lt; replace b3 := b3.below hB5 b3.lt; replace hB := hB.trans (hB5.mono hB.size)) | (refine wpl_load_arr rfl 104 _ rfl _ rfl 16 ty16 x Hx1.out b0.cells_arr ?_) | (go_at_call 97; refine (up_any x Hx1.out _).mono ?_; rintro e w6 ⟨rfl, hB6⟩; rw [Hu.out]; replace b0 := b0.below hB6 b0.lt; replace b1 := b1.below hB6 b1.lt; replace b2 := b2.below hB6 b2.lt; replace b3 := b3.below hB6 b3.lt; replace hB := hB.trans (hB6.mono hB.size)) | (refine wpl_store_arr rfl 104 _ _ rfl w.heap.size u rfl rfl 104 _ b0 16 ty16.size Hul.out (by rw [arr_size, Hx1.out]) ?_))
        go_roundw
        case rel => exact ⟨k + 1, u, o, by omega, by go_num, Hul.out, Hup.out, Ho1.out, Hon.out, b0.setRow _, b1.farRow (by simp <;> omega) _, b2.farRow (by simp <;> omega) _, b3.farRow (by simp <;> omega) _, below_setRow hB (by omega) _⟩
        case measure => simp [intOf] <;> omega
      · obtain ⟨u, Hu⟩ : ∃ u, Hd (Gcm.upAll x = u) := ⟨_, ⟨rfl⟩⟩
        have Hul := hd (show u.length = 16 by rw [← Hu.out, Gcm.upAll_len, Hx1.out])
        have Hup := hd (show Gcm.poly u = Gf.upN (k + 1) A by rw [← Hu.out, Gcm.poly_up _ Hx1.out, Hx2.out]; rfl)
        obtain ⟨q, Hq⟩ : ∃ u, Hd (Aes.xor16 o x = u) := ⟨_, ⟨rfl⟩⟩
        have Hql := hd (show q.length = 16 by rw [← Hq.out, Aes.xor16_len, Ho1.out])
        have Hon := hd (show Gcm.poly q = Gf.mulTo (k + 1) A B by rw [← Hq.out, Gcm.poly_xor _ _ Ho1.out, Ho2.out, Hx2.out, Gf.mulTo, ← HB.out, Hc.out, Gf.pick, if_pos rfl])
        go_wp2_with (first | (refine wpl_load_arr rfl 104 _ rfl _ rfl 16 ty16 b Hb.out b1.cells_arr ?_) | (go_at_call 96; refine (bit_any b Hb.out k hlt _).mono ?_; rintro e w5 ⟨rfl, hB5⟩; rw [Hc.out]; replace b0 := b0.below hB5 b0.lt; replace b1 := b1.below hB5 b1.lt; replace b2 := b2.below hB5 b2.lt; replace b3 := b3.below hB5 b3.lt; replace hB := hB.trans (hB5.mono hB.size)))
        go_loopw [7] (fun i wr => ∃ (j : Nat), j ≤ 16 ∧ i = .int .i64 (j : Int) ∧ Blk wr w.heap.size 104 (arr x) ∧ Blk wr (w.heap.size + 1) 104 (arr b) ∧ Blk wr (w.heap.size + 1 + 1) 104 (arr (List.replicate 16 0)) ∧ Blk wr (w.heap.size + 1 + 1 + 1) 104 (arr (iter (Aes.xorStep x) j o)) ∧ Below w.heap.size w wr) (fun i _ => 16 - (intOf i).toNat)
        case atStart => exact ⟨0, by omega, rfl, b0, b1, b2, b3, hB⟩
        case round =>
          clear b0 b1 b2 b3 hB
          obtain ⟨j, hj, rfl, b0, b1, b2, b3, hB⟩ := hrel
          obtain ⟨s, Hs⟩ : ∃ s, Hd (iter (Aes.xorStep x) j o = s) := ⟨_, ⟨rfl⟩⟩
          rw [Hs.out] at b3
          have Hl := hd (show s.length = 16 by rw [← Hs.out, Aes.xorStep_len, Ho1.out])
          by_cases hlj : j < 16
          · have tj : (j : Int) < 16 := by omega
            have d0 := b0.arr_cell j (by rw [Hx1.out]; omega)
            have d3 := b3.arr_cell j (by rw [Hl.out]; omega)
            have f3 := b3.frozen j
            go_wp2
            go_still_tail 9, (by kernel_rfl)
            change wpList _ _ _ _ _ wr.drew
            go_wp2
            go_roundw
            case rel => exact ⟨j + 1, by omega, by go_num, b0.drew.far (by simp <;> omega) _, b1.drew.far (by simp <;> omega) _, b2.drew.far (by simp <;> omega) _, by rw [iter, Hs.out]; exact b3.drew.arr_set _ _, hB.drew.setCell (by simp <;> omega) _⟩
            case measure => simp [intOf] <;> omega
          · have ej : j = 16 := by omega
            subst ej
            have tj : ¬ ((16 : Nat) : Int) < 16 := by omega
            rw [show s = q by rw [← Hs.out, ← Hq.out, Aes.xor16_eq]] at b3
            go_wp2_with (first | (refine wpl_load_arr rfl 104 _ rfl _ rfl 16 ty16 x Hx1.out b0.cells_arr ?_) | (go_at_call 97; refine (up_any x Hx1.out _).mono ?_; rintro e w6 ⟨rfl, hB6⟩; rw [Hu.out]; replace b0 := b0.below hB6 b0.lt; replace b1 := b1.below hB6 b1.lt; replace b2 := b2.below hB6 b2.lt; replace b3 := b3.below hB6 b3.lt; replace hB := hB.trans (hB6.mono hB.size)) | (refine wpl_store_arr rfl 104 _ _ rfl w.heap.size u rfl rfl 104 _ b0 16 ty16.size Hul.out (by rw [arr_size, Hx1.out]) ?_))
            go_roundw
            case rel => exact ⟨k + 1, u, q, by omega, by go_num, Hul.out, Hup.out, Hql.out, Hon.out, b0.setRow _, b1.farRow (by simp <;> omega) _, b2.farRow (by simp <;> omega) _, b3.farRow (by simp <;> omega) _, below_setRow hB (by omega) _⟩
            case measure => simp [intOf] <;> omega
    · have ek : k = 128 := by omega
      subst ek
      have tk : ¬ ((128 : Nat) : Int) < 128 := by omega
      have Hfin := hd (show r = o from Gcm.poly_inj _ _ Hrl.out Ho1.out (by rw [Hrp.out, Ho2.out]))
      go_wp2_with (first | (refine wpl_load_arr rfl 104 _ rfl _ rfl 16 ty16 o Ho1.out b3.cells_arr ?_) | (refine wpl_store_arr rfl 104 _ _ rfl (w.heap.size + 1 + 1) o rfl rfl 104 _ b2 16 ty16.size Ho1.out (by rw [arr_size, List.length_replicate]) ?_))
      rw [Hfin.out]
      exact ret_arr rfl (w.heap.size + 1 + 1) rfl ty16 o Ho1.out (b2.setRow _).cells_arr rfl ⟨rfl, below_setRow hB (by omega) _⟩
end Go.Proofs.Ytbcboldepghgpaa
