/-
  The walk that encrypts a block.
-/
import Derived.Test.YtbnhjgknffcjeaaAesB
import Derived.Test.YtbnhjgknffcjeaaAesC
set_option linter.unusedVariables false
set_option linter.unusedSimpArgs false
namespace Go.Proofs.Ytbnhjgknffcjeaa
open Go.RowKit
/-- Block g holds a key made ready: its round keys lie in a block of their own, behind it the box. -/
structure KeyAt (w : World) (g : Nat) (rs : List (List UInt8)) : Prop where
  ex : ∃ r c, r < w.heap.size ∧ Blk w g 113 (#[Value.slice (some ⟨r, 0, none⟩) rs.length c] ++ arr Aes.sbox) ∧ ∀ i, i < rs.length → (rs.getD i []).length = 16 ∧ Cells w ⟨r, i * 16, none⟩ ((rs.getD i []).map U8)
theorem KeyAt.below {w w' : World} {g : Nat} {rs : List (List UInt8)} (h : KeyAt w g rs) (hb : Below w.heap.size w w') : KeyAt w' g rs := by
  obtain ⟨r, c, hr, h1, h2⟩ := h.ex
  exact ⟨r, c, Nat.lt_of_lt_of_le hr hb.size, h1.below hb h1.lt, fun i hi => ⟨(h2 i hi).1, (h2 i hi).2.below hb hr⟩⟩
theorem sbox_len : Aes.sbox.length = 256 := by rw [Aes.sbox, List.length_set, Aes.boxRun_len]
theorem head_cell (v : Value) (l : List UInt8) : (#[v] ++ arr l)[0]? = some v := by
  rw [Array.getElem?_append_left (by simp)]; rfl
theorem box_cell (v : Value) (x : Nat) (hx : x < 256) : (#[v] ++ arr Aes.sbox)[1 + x]? = some (.int .u8 (n8 (nth Aes.sbox x))) := by
  rw [Array.getElem?_append_right (by simp), show 1 + x - (#[v] : Array Value).size = x by simp, arr_get _ _ (by rw [sbox_len]; exact hx)]
set_option maxHeartbeats 2000000 in
set_option maxRecDepth 100000 in
theorem encrypt_any (g : Nat) (rs : List (List UInt8)) (b : List UInt8) (hb : b.length = 16) (hrs : 1 ≤ rs.length) (hrl : rs.length ≤ 100) (w : World) (hk : KeyAt w g rs) :
    Calls Try.prog 70 #[.pointer (some ⟨g, 0, none⟩), .agg (arr b)] w fun e w' => e = .returned (.agg (arr (Aes.enc rs b))) ∧ Below w.heap.size w w' := by
  have Hb := hd hb
  clear hb
  obtain ⟨r, c, hr, k1, k2⟩ := hk.ex
  obtain ⟨n, Hn⟩ : ∃ n, Hd (rs.length = n) := ⟨_, ⟨rfl⟩⟩
  rw [Hn.out] at k1 k2 hrs hrl
  have hg := k1.lt
  have cs : w.cell? ⟨g, 0, none⟩ = some (.slice (some ⟨r, 0, none⟩) n c) := (k1.cell 0).trans (head_cell _ _)
  have hl0 : (0 : Int) < (n : Int) := by omega
  have hl1 : 0 < n := by omega
  obtain ⟨hl00, hc0⟩ := k2 0 (by omega)
  obtain ⟨q0, Hq0⟩ : ∃ q, Hd (rs.getD 0 [] = q) := ⟨_, ⟨rfl⟩⟩
  rw [Hq0.out] at hl00 hc0
  have Hl0 := hd hl00
  have K2 := hd k2
  clear hl00 k2
  clear hk
  go_enter Try.func70, Try.ntmps70
  go_wp2
  refine wp_name (fun wo => Blk wo w.heap.size 63 (arr b) ∧ Blk wo (w.heap.size + 1) 63 (arr (List.replicate 16 0)) ∧ Below w.heap.size w wo) ⟨(Blk.nu (by simp)).alloc _, Blk.nu (by simp), ((Below.refl _ _).alloc (by simp) _).alloc (by simp) _⟩ ?_
  rintro wo ⟨b3, b4, hB⟩
  have csw : wo.cell? ⟨g, 0, none⟩ = some (.slice (some ⟨r, 0, none⟩) n c) := (hB.cell (p := ⟨g, 0, none⟩) hg).trans cs
  go_still_tail 7, (by kernel_rfl)
  refine still_load_arr rfl 63 _ rfl _ rfl 16 ty16 b Hb.out b3.drew.cells_arr ?_
  repeat still_step
  refine still_load_arr rfl 63 _ rfl _ rfl 16 ty16 q0 Hl0.out (hc0.below hB hr).drew ?_
  refine wpStill_nil ?_
  change wpList _ _ _ _ _ wo.drew
  simp only [Act.put, List.setIfInBounds_toArray, List.set_cons_zero, List.set_cons_succ]
  go_wp2_with fail
  refine (with_any _ _ Hb.out Hl0.out _).mono ?_
  rintro e w1 ⟨rfl, hB1⟩
  have X0l := hd (show (Aes.xor16 b q0).length = 16 by rw [Aes.xor16_len, Hb.out])
  have b31 := b3.drew.below hB1 b3.drew.lt
  have b41 := b4.drew.below hB1 b4.drew.lt
  have hB2 := hB.drew.trans (hB1.mono hB.size)
  clear hB1 b3 b4 hB csw
  go_wp2_with ((refine wpl_store_arr rfl 63 _ _ rfl w.heap.size (Aes.xor16 b q0) rfl rfl 63 _ b31 16 ty16.size X0l.out (by rw [arr_size]; exact Hb.out) ?_); refine wpl_name (fun wx => Blk wx w.heap.size 63 (arr (Aes.xor16 b q0)) ∧ Blk wx (w.heap.size + 1) 63 (arr (List.replicate 16 0)) ∧ Below w.heap.size w wx ∧ wx.cell? ⟨g, 0, none⟩ = some (.slice (some ⟨r, 0, none⟩) n c)) ⟨b31.setRow _, b41.farRow (by omega) _, below_setRow hB2 (by omega) _, ((below_setRow hB2 (Nat.le_refl _) _).cell (p := ⟨g, 0, none⟩) hg).trans cs⟩ ?_; rintro wx ⟨b32, b42, hB3, csx⟩)
  clear csx
  go_loopw [6] (fun i wr => ∃ k : Nat, k + 1 ≤ n ∧ i = .int .i64 ((k : Int) + 1) ∧ Blk wr w.heap.size 63 (arr (Aes.encRun rs b k)) ∧
      Blk wr (w.heap.size + 1) 63 (arr (List.replicate 16 0)) ∧ Below w.heap.size w wr) (fun i _ => n - (intOf i).toNat)
  case atStart => exact ⟨0, by omega, rfl, by rw [Aes.encRun_zero, Hq0.out]; exact b32, b42, hB3⟩
  case round =>
    obtain ⟨k, hkn, rfl, b1, b2, hB⟩ := hrel
    obtain ⟨s, Hs⟩ : ∃ s, Hd (Aes.encRun rs b k = s) := ⟨_, ⟨rfl⟩⟩
    rw [Hs.out] at b1
    have Hl := hd (show s.length = 16 by rw [← Hs.out, Aes.encRun_len _ _ Hb.out])
    by_cases hlt : k + 1 < n
    · have t1 : (k : Int) + 1 ≤ (n : Int) - 1 := by omega
      have hsz := b2.lt
      go_wp2
      refine wp_name (fun wo => Blk wo w.heap.size 63 (arr s) ∧ Blk wo (w.heap.size + 1) 63 (arr (List.replicate 16 0)) ∧ Below w.heap.size w wo ∧ Blk wo wr.heap.size 63 (arr (List.replicate 16 0))) ⟨b1.alloc _, b2.alloc _, hB.alloc (by omega) _, Blk.nu rfl⟩ ?_
      rintro wo ⟨c1, c2, hC, c3⟩
      generalize wr.heap.size = z at *
      clear b1 b2 hB
      go_loopw [28] (fun i wi => ∃ j : Nat, j ≤ 16 ∧ i = .int .i64 (j : Int) ∧ Blk wi w.heap.size 63 (arr s) ∧ Blk wi (w.heap.size + 1) 63 (arr (List.replicate 16 0)) ∧ Below w.heap.size w wi ∧
        Blk wi z 63 (arr (iter (Aes.subStep s) j (List.replicate 16 0)))) (fun i _ => 16 - (intOf i).toNat)
      case atStart => exact ⟨0, by omega, rfl, c1, c2, hC, c3⟩
      case round =>
        clear c1 c2 c3 hC
        obtain ⟨j, hj, rfl, d1, d2, hD, d3⟩ := hrel
        obtain ⟨t, Ht⟩ : ∃ t, Hd (iter (Aes.subStep s) j (List.replicate 16 0) = t) := ⟨_, ⟨rfl⟩⟩
        rw [Ht.out] at d3
        have Htl := hd (show t.length = 16 by rw [← Ht.out, Aes.subStep_len]; exact List.length_replicate)
        have csi : wr.cell? ⟨g, 0, none⟩ = some (.slice (some ⟨r, 0, none⟩) n c) := (hD.cell (p := ⟨g, 0, none⟩) hg).trans cs
        by_cases hj16 : j < 16
        · obtain ⟨m, Hm⟩ : ∃ m, Hd (5 * j % 16 = m) := ⟨_, ⟨rfl⟩⟩
          have hm : m < 16 := by rw [← Hm.out]; omega
          have hmi : (m : Int) < 16 := by omega
          have hji : (j : Int) < 16 := by omega
          obtain ⟨x, Hx⟩ : ∃ x, Hd (nth s m = x) := ⟨_, ⟨rfl⟩⟩
          have e1 := d1.arr_cell m (by rw [Hl.out]; exact hm)
          rw [Hx.out] at e1
          have e2 : wr.cell? ⟨g, 1 + n8 x, none⟩ = some (.int .u8 (n8 (nth Aes.sbox (n8 x)))) := ((hD.cell (p := ⟨g, 1 + n8 x, none⟩) hg).trans (k1.cell _)).trans (box_cell _ _ (n8_lt x))
          have e3 := d3.arr_cell j (by rw [Htl.out]; exact hj16)
          have f3 := d3.frozen j
          have hx := n8_ilt x
          have w2 : (5 * (j : Int)).tmod 16 = (m : Int) := by
            rw [← Hm.out, Int.tmod_eq_emod_of_nonneg (by omega)]; omega
          have w1 : IntKind.i64.wrap (5 * (j : Int)) = 5 * (j : Int) := IntWalk.i64_in _ (by omega)
          have w3 : IntKind.i64.wrap (m : Int) = (m : Int) := IntWalk.i64_in _ (by omega)
          go_wp2
          go_still_tail 12, (by kernel_rfl)
          change wpList _ _ _ _ _ wr.drew
          go_wp2
          clear w1 w2 w3
          go_roundw
          case rel => exact ⟨j + 1, by omega, by go_num, d1.drew.far (by simp; omega) _, d2.drew.far (by simp; omega) _, hD.drew.setCell (by simp; omega) _, by rw [iter, Ht.out, Aes.subStep, Hm.out, Hx.out]; exact d3.drew.arr_set _ _⟩
          case measure => simp [intOf]; omega
        · have e16 : j = 16 := by omega
          subst e16
          have Hts := hd (show Aes.sub s = t by rw [Aes.sub_eq]; exact Ht.out)
          have kC := Hd.out K2 (k + 1) hlt
          obtain ⟨kl, kc⟩ := kC
          obtain ⟨q, Hq⟩ : ∃ q, Hd (rs.getD (k + 1) [] = q) := ⟨_, ⟨rfl⟩⟩
          rw [Hq.out] at kl kc
          have Hql := hd kl
          clear kl
          have hki : (k : Int) + 1 < (n : Int) := by omega
          have hk0 : 0 ≤ (k : Int) + 1 := by omega
          have hkt : ((k : Int) + 1).toNat = k + 1 := by omega
          by_cases hlast : k + 1 < n - 1
          · have ti : (k : Int) + 1 < (n : Int) - 1 := by omega
            go_wp2_with (refine wpl_load_arr rfl 63 _ rfl _ rfl 16 ty16 t Htl.out d3.cells_arr ?_)
            refine (mixed_any t Htl.out _).mono ?_
            rintro e w4 ⟨rfl, hB4⟩
            obtain ⟨mt, Hmt⟩ : ∃ q, Hd (Aes.mix t = q) := ⟨_, ⟨rfl⟩⟩
            rw [Hmt.out]
            have Hml := hd (show mt.length = 16 by rw [← Hmt.out, Aes.mix_len, Htl.out])
            have d14 := d1.below hB4 d1.lt
            have d24 := d2.below hB4 d2.lt
            have d34 := d3.below hB4 d3.lt
            have hD4 := hD.trans (hB4.mono hD.size)
            have Hstep := hd (show Aes.roundStep rs k s = Aes.xor16 mt q by rw [Aes.roundStep, if_pos (by rw [Hn.out]; exact hlast), Hts.out, Hmt.out, Hq.out])
            clear d1 d2 d3 hD hB4 csi
            go_wp2_with ((refine wpl_store_arr rfl 63 _ _ rfl z mt rfl rfl 63 _ d34 16 ty16.size Hml.out (by rw [arr_size, Htl.out]) ?_); refine wpl_name (fun wx => Blk wx w.heap.size 63 (arr s) ∧ Blk wx (w.heap.size + 1) 63 (arr (List.replicate 16 0)) ∧ Blk wx z 63 (arr mt) ∧ Below w.heap.size w wx) ⟨d14.farRow (by omega) _, d24.farRow (by omega) _, d34.setRow _, below_setRow hD4 (by omega) _⟩ ?_; rintro wx ⟨d1, d2, d3, hD⟩)
            have csi : wx.cell? ⟨g, 0, none⟩ = some (.slice (some ⟨r, 0, none⟩) n c) := (hD.cell (p := ⟨g, 0, none⟩) hg).trans cs
            go_still_tail 8, (by kernel_rfl)
            refine still_load_arr rfl 63 _ rfl _ rfl 16 ty16 mt Hml.out d3.drew.cells_arr ?_
            repeat still_step
            refine still_load_arr rfl 63 _ rfl _ rfl 16 ty16 q Hql.out (kc.below hD hr).drew ?_
            refine wpStill_nil ?_
            change wpList _ _ _ _ _ wx.drew
            simp only [Act.put, List.setIfInBounds_toArray, List.set_cons_zero, List.set_cons_succ]
            go_wp2_with fail
            refine (with_any mt q Hml.out Hql.out _).mono ?_
            rintro e w5 ⟨rfl, hB5⟩
            obtain ⟨xr, Hxr⟩ : ∃ v, Hd (Aes.xor16 mt q = v) := ⟨_, ⟨rfl⟩⟩
            rw [Hxr.out]
            have Hxl := hd (show xr.length = 16 by rw [← Hxr.out, Aes.xor16_len, Hml.out])
            have d15 := d1.drew.below hB5 d1.lt
            have d25 := d2.drew.below hB5 d2.lt
            have hD5 := hD.drew.trans (hB5.mono hD.size)
            clear d1 d2 d3 hD hB5 csi
            go_wp2_with (refine wpl_store_arr rfl 63 _ _ rfl w.heap.size xr rfl rfl 63 _ d15 16 ty16.size Hxl.out (by rw [arr_size, Hl.out]) ?_)
            go_roundw
            case rel => exact ⟨k + 1, by omega, by go_num, by rw [Aes.encRun_succ, Hs.out, Hstep.out, Hxr.out]; exact d15.setRow _, d25.farRow (by omega) _, below_setRow hD5 (by omega) _⟩
            case measure => simp [intOf]; omega
          · have ti : (n : Int) - 1 ≤ (k : Int) + 1 := by omega
            have Hstep := hd (show Aes.roundStep rs k s = Aes.xor16 t q by rw [Aes.roundStep, if_neg (by rw [Hn.out]; exact hlast), Hts.out, Hq.out])
            go_wp2_with fail
            refine wp_name (fun wx => Blk wx w.heap.size 63 (arr s) ∧ Blk wx (w.heap.size + 1) 63 (arr (List.replicate 16 0)) ∧ Blk wx z 63 (arr t) ∧ Below w.heap.size w wx) ⟨d1, d2, d3, hD⟩ ?_
            clear d1 d2 d3 hD csi
            rintro wx ⟨d1, d2, d3, hD⟩
            have csi : wx.cell? ⟨g, 0, none⟩ = some (.slice (some ⟨r, 0, none⟩) n c) := (hD.cell (p := ⟨g, 0, none⟩) hg).trans cs
            go_still_tail 8, (by kernel_rfl)
            refine still_load_arr rfl 63 _ rfl _ rfl 16 ty16 t Htl.out d3.drew.cells_arr ?_
            repeat still_step
            refine still_load_arr rfl 63 _ rfl _ rfl 16 ty16 q Hql.out (kc.below hD hr).drew ?_
            refine wpStill_nil ?_
            change wpList _ _ _ _ _ wx.drew
            simp only [Act.put, List.setIfInBounds_toArray, List.set_cons_zero, List.set_cons_succ]
            go_wp2_with fail
            refine (with_any t q Htl.out Hql.out _).mono ?_
            rintro e w5 ⟨rfl, hB5⟩
            obtain ⟨xr, Hxr⟩ : ∃ v, Hd (Aes.xor16 t q = v) := ⟨_, ⟨rfl⟩⟩
            rw [Hxr.out]
            have Hxl := hd (show xr.length = 16 by rw [← Hxr.out, Aes.xor16_len, Htl.out])
            have d15 := d1.drew.below hB5 d1.lt
            have d25 := d2.drew.below hB5 d2.lt
            have hD5 := hD.drew.trans (hB5.mono hD.size)
            clear d1 d2 d3 hD hB5 csi
            go_wp2_with (refine wpl_store_arr rfl 63 _ _ rfl w.heap.size xr rfl rfl 63 _ d15 16 ty16.size Hxl.out (by rw [arr_size, Hl.out]) ?_)
            go_roundw
            case rel => exact ⟨k + 1, by omega, by go_num, by rw [Aes.encRun_succ, Hs.out, Hstep.out, Hxr.out]; exact d15.setRow _, d25.farRow (by omega) _, below_setRow hD5 (by omega) _⟩
            case measure => simp [intOf]; omega
    · have en : n = k + 1 := by omega
      have t1 : (n : Int) - 1 < (k : Int) + 1 := by omega
      have Henc := hd (show Aes.enc rs b = s by rw [Aes.enc, Hn.out, en]; exact Hs.out)
      have Hen := hd en
      clear en
      go_wp2_with (first | (refine wpl_load_arr rfl 63 _ rfl _ rfl 16 ty16 s Hl.out b1.cells_arr ?_) | (refine wpl_store_arr rfl 63 _ _ rfl (w.heap.size + 1) s rfl rfl 63 _ b2 16 ty16.size Hl.out (by rw [arr_size]; exact List.length_replicate) ?_))
      exact ret_arr rfl (w.heap.size + 1) rfl ty16 _ Hl.out (b2.setRow _).cells_arr rfl ⟨by rw [Henc.out], below_setRow hB (by omega) _⟩
end Go.Proofs.Ytbnhjgknffcjeaa
