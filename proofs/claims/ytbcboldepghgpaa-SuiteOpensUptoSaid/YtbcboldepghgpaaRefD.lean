/-
  The walk of the reference that makes a key ready, of 32 bytes.
-/
import Derived.Test.YtbcboldepghgpaaRefN
set_option linter.unusedVariables false
set_option linter.unusedSimpArgs false
set_option maxRecDepth 100000
namespace Go.Proofs.Ytbcboldepghgpaa
open Go.RowKit
set_option maxHeartbeats 4000000 in
set_option maxRecDepth 100000 in
theorem ref_new_made32 (A : Option Addr) (c : Nat) (key : List UInt8) (w : World) (hr : ReadsB w w.heap.size A 32 key) :
    Calls Try.prog 49 #[.slice A 32 c] w fun e w' => ∃ g, e = .returned (.tuple #[.pointer (some ⟨g, 0, none⟩), .int .i64 0]) ∧ RefAt w' g (Aes.keys key) ∧ Below w.heap.size w w' := by
  have Hk := hd (show key.length = 4 * 8 from hr.len)
  have hZ := hd Aes.zeros_len
  go_enter Try.func49, Try.ntmps49
  go_wp2_with fail
  refine (Boxes_any _).mono ?_
  rintro e w1 ⟨rfl, hB1⟩
  rw [Aes.boxes_sbox]
  go_wp2_with (first | (refine wpl_build rfl 119 _ rfl _ rfl _ (refkey_cells 14) ?_) | (refine wpl_alloc rfl 121 rfl _ zero240 ?_))
  obtain ⟨g, Hg⟩ : ∃ g, Hd (w1.heap.size = g) := ⟨_, ⟨rfl⟩⟩
  refine wp_name (fun wo => Blk wo g 119 (refCells Aes.zeros 14) ∧ Blk wo (g + 1) 121 (arr (Aes.pad [])) ∧ Below w.heap.size w wo) ⟨by rw [← Hg.out]; exact (Blk.nu rfl).alloc _, by rw [← Hg.out, Aes.pad_nil]; exact Blk.nu (by simp), (hB1.alloc hB1.size _).alloc (by have := hB1.size; simp; omega) _⟩ ?_
  rintro wo ⟨b1, b2, hB⟩
  rw [Hg.out]
  have hgB : w.heap.size ≤ g := by rw [← Hg.out]; exact hB1.size
  clear hB1
  go_loopw [7, 8] (fun one i wr => ∃ k : Nat, k ≤ 60 ∧ i = .int .i64 (k : Int) ∧ one = .int .u8 (n8 (Aes.refSt key 8 k).2) ∧ Blk wr g 119 (refCells Aes.zeros 14) ∧ Blk wr (g + 1) 121 (arr (Aes.pad (Aes.refSt key 8 k).1)) ∧ Below w.heap.size w wr) (fun _ i _ => 60 - (intOf i).toNat)
  case atStart => exact ⟨0, by omega, rfl, by rw [Aes.refSt_zero _ _ (by omega)]; rfl, b1, by rw [Aes.refSt_zero _ _ (by omega)]; exact b2, hB⟩
  case round =>
    clear b1 b2 hB
    obtain ⟨k, hkT, rfl, rfl, b1, b2, hB⟩ := hrel
    have cN : wr.cell? ⟨g, 240, none⟩ = some (.int .i64 (14 : Nat)) := (b1.cell _).trans (refCells_N _ _ hZ.out)
    by_cases hlt : k < 60
    · have tk : (k : Int) < 60 := by omega
      by_cases hq : k < 8
      · have tq : (k : Int) < 8 := by omega
        obtain ⟨ad, hA, had, hc⟩ := ReadsB.all (w := wr) ⟨hr.len, hr.is.below hB⟩ (by omega)
        subst hA
        have c0 := hc (4 * k) (by omega)
        have c1 : wr.cell? ⟨ad.block, ad.off + (4 * k + 1), none⟩ = some (.int .u8 (n8 (nth key (4 * k + 1)))) := by have h := hc (4 * k + 1) (by omega); simpa [Addr.add] using h
        have c2 : wr.cell? ⟨ad.block, ad.off + (4 * k + 2), none⟩ = some (.int .u8 (n8 (nth key (4 * k + 2)))) := by have h := hc (4 * k + 2) (by omega); simpa [Addr.add] using h
        have c3 : wr.cell? ⟨ad.block, ad.off + (4 * k + 3), none⟩ = some (.int .u8 (n8 (nth key (4 * k + 3)))) := by have h := hc (4 * k + 3) (by omega); simpa [Addr.add] using h
        have hcc := hd hc
        clear hc
        have Hp := hd (show (Aes.refSt key 8 k).1.length = 4 * k from Aes.refSt_len _ _ _ Hk.out)
        have v0 : IntKind.i64.wrap (4 * (k : Int)) = 4 * (k : Int) := IntWalk.i64_in _ (by omega)
        have v1 : IntKind.i64.wrap (4 * (k : Int) + 1) = 4 * (k : Int) + 1 := IntWalk.i64_in _ (by omega)
        have v2 : IntKind.i64.wrap (4 * (k : Int) + 2) = 4 * (k : Int) + 2 := IntWalk.i64_in _ (by omega)
        have v3 : IntKind.i64.wrap (4 * (k : Int) + 3) = 4 * (k : Int) + 3 := IntWalk.i64_in _ (by omega)
        have n0 : (4 * (k : Int)).toNat = 4 * k := by omega
        have n1 : (4 * (k : Int) + 1).toNat = 4 * k + 1 := by omega
        have n2 : (4 * (k : Int) + 2).toNat = 4 * k + 2 := by omega
        have n3 : (4 * (k : Int) + 3).toNat = 4 * k + 3 := by omega
        have u0 : 4 * (k : Int) < 32 := by omega
        have u1 : 4 * (k : Int) + 1 < 32 := by omega
        have u2 : 4 * (k : Int) + 2 < 32 := by omega
        have u3 : 4 * (k : Int) + 3 < 32 := by omega
        have s0 : 0 ≤ 4 * (k : Int) := by omega
        have s1 : 0 ≤ 4 * (k : Int) + 1 := by omega
        have s2 : 0 ≤ 4 * (k : Int) + 2 := by omega
        have s3 : 0 ≤ 4 * (k : Int) + 3 := by omega
        have s4 : (k : Int) < 60 := by omega
        go_wp2
        go_still_tail 26, (by kernel_rfl)
        try refine still_build rfl 120 _ rfl _ rfl _ (built4 _ _ _ _ rfl rfl rfl rfl) ?_
        repeat still_step
        try refine wpStill_nil ?_
        change wpList _ _ _ _ _ wr.drew
        try simp only [Act.put, List.setIfInBounds_toArray, List.set_cons_zero, List.set_cons_succ]
        clear v0 v1 v2 v3 n0 n1 n2 n3 u0 u1 u2 u3 s0 s1 s2 s3 s4 c0 c1 c2 c3
        have hcell : (#[Value.int .u8 (n8 (nth key (4 * k))), Value.int .u8 (n8 (nth key (4 * k + 1))), Value.int .u8 (n8 (nth key (4 * k + 2))), Value.int .u8 (n8 (nth key (4 * k + 3)))] : Array Value) = arr [nth key (4 * k), nth key (4 * k + 1), nth key (4 * k + 2), nth key (4 * k + 3)] := rfl
        rw [hcell]
        clear hcell
        obtain ⟨t, Ht⟩ : ∃ t, Hd ([nth key (4 * k), nth key (4 * k + 1), nth key (4 * k + 2), nth key (4 * k + 3)] = t) := ⟨_, ⟨rfl⟩⟩
        rw [Ht.out]
        have Htl := hd (show t.length = 4 by rw [← Ht.out]; rfl)
        have Hnext := hd (Aes.refSt_to key 8 k Hk.out hq)
        have Hspl := hd (show splice (arr (Aes.pad (Aes.refSt key 8 k).1)) (k * 4) (t.map U8) = arr (Aes.pad (Aes.refSt key 8 (k + 1)).1) by
          rw [show k * 4 = (Aes.refSt key 8 k).1.length by rw [Hp.out]; omega, Aes.pad_splice _ _ (by rw [Hp.out, Htl.out]; omega), show (Aes.refSt key 8 k).1 ++ t = (Aes.refSt key 8 (k + 1)).1 by rw [Hnext.out, ← Ht.out, Aes.refSt_lo _ _ _ hq]])
        go_wp2_with (refine wpl_store rfl 120 _ _ rfl (g + 1) (k * 4) (t.map U8) rfl rfl 121 _ b2.drew (by rw [List.length_map, Htl.out]; exact ty4.size) (by rw [arr_size, List.length_map, Htl.out, Aes.pad_len _ (by rw [Hp.out]; omega)]; omega) (by simp [Value.oneCell']) ?_)
        go_roundw
        case rel => exact ⟨k + 1, by omega, by go_num, by rw [Hnext.out, Aes.refSt_lo _ _ _ hq], b1.drew.farRow (by omega) _, by rw [← Hspl.out]; exact b2.drew.setRow _, below_setRow hB.drew (by omega) _⟩
        case measure => simp [intOf]; omega
      · have tq : ¬ (k : Int) < 8 := by omega
        obtain ⟨⟨al, one⟩, Hs⟩ : ∃ s, Hd (Aes.refSt key 8 k = s) := ⟨_, ⟨rfl⟩⟩
        have Hkr := hd (show Aes.keyRun key (k - 8) = (al, one) by rw [← Hs.out, ← Aes.refSt_hi key 8, show 8 + (k - 8) = k by omega])
        have Hal := hd (show al.length = 4 * k by rw [← Aes.refSt_len key 8 k Hk.out, Hs.out])
        rw [Hs.out] at b2
        rw [Hs.out]
        dsimp only at b2 ⊢
        obtain ⟨T, HT⟩ : ∃ T, Hd (Aes.last4 al = T) := ⟨_, ⟨rfl⟩⟩
        have Tl := hd (show T.length = 4 by rw [← HT.out]; exact Aes.last4_len _ (by rw [Hal.out]; omega))
        have hcs : Cells wr ⟨g + 1, (k - 1) * 4, none⟩ (T.map U8) := by
          refine b2.cells_at _ _ (fun i v hv => ?_)
          have hi : i < 4 := by
            rcases Nat.lt_or_ge i 4 with h | h
            · exact h
            · rw [List.getElem?_eq_none (by rw [List.length_map, Tl.out]; exact h)] at hv; cases hv
          have hv2 : (T.map U8)[i]? = some (.int .u8 (n8 (nth T i))) := by
            have := arr_get T i (by rw [Tl.out]; exact hi)
            simpa [arr] using this
          rw [hv2] at hv
          injection hv with hv
          rw [arr_get _ _ (by rw [Aes.pad_len _ (by rw [Hal.out]; omega)]; omega), Aes.pad_nth _ _ (by rw [Hal.out]; omega), ← hv, ← HT.out, Aes.last4, Aes.nth_take _ _ _ hi, Aes.nth_drop, Hal.out, show 4 * k - 4 + i = (k - 1) * 4 + i by omega]
        have v1 : IntKind.i64.wrap ((k : Int) - 1) = (k : Int) - 1 := IntWalk.i64_in _ (by omega)
        have v2 : ((k : Int) - 1).toNat = k - 1 := by omega
        have v3 : 0 ≤ (k : Int) - 1 := by omega
        have v4 : (k : Int) - 1 < 60 := by omega
        have hg0 := b1.lt
        have hg1 := b2.lt
        obtain ⟨m, Hm⟩ : ∃ m, Hd (k % 8 = m) := ⟨_, ⟨rfl⟩⟩
        have vm : (k : Int).tmod 8 = (m : Int) := by rw [← Hm.out, Int.tmod_eq_emod_of_nonneg (by omega)]; omega
        have vw : IntKind.i64.wrap (m : Int) = (m : Int) := by have h1 := Hm.out; exact IntWalk.i64_in _ (by omega)
        by_cases hm0 : m = 0
        · subst hm0
          go_wp2_with (first | (refine wpl_load_arr rfl 120 _ rfl _ rfl 4 ty4 T Tl.out hcs ?_) | (refine wpl_alloc rfl 120 rfl _ zero4 ?_) | ((refine wpl_store_arr rfl 120 _ _ rfl wr.heap.size T rfl rfl 120 _ (Blk.nu rfl) 4 ty4.size Tl.out (by rw [arr_size]; rfl) ?_); refine wpl_name (fun wo => Blk wo g 119 (refCells Aes.zeros 14) ∧ Blk wo (g + 1) 121 (arr (Aes.pad al)) ∧ Blk wo wr.heap.size 120 (arr T) ∧ Below w.heap.size w wo) ⟨(b1.alloc _).farRow (by omega) _, (b2.alloc _).farRow (by omega) _, (Blk.nu rfl).setRow _, below_setRow (hB.alloc hB.size _) hB.size _⟩ ?_; rintro wo ⟨b1, b2, dz, hB⟩))
          obtain ⟨z, Hz⟩ : ∃ z, Hd (wr.heap.size = z) := ⟨_, ⟨rfl⟩⟩
          rw [Hz.out] at dz ⊢
          clear hcs v1 v2 v3 v4 cN
          obtain ⟨x0, X0⟩ : ∃ x, Hd (nth T 0 = x) := ⟨_, ⟨rfl⟩⟩
          obtain ⟨x1, X1⟩ : ∃ x, Hd (nth T 1 = x) := ⟨_, ⟨rfl⟩⟩
          obtain ⟨x2, X2⟩ : ∃ x, Hd (nth T 2 = x) := ⟨_, ⟨rfl⟩⟩
          obtain ⟨x3, X3⟩ : ∃ x, Hd (nth T 3 = x) := ⟨_, ⟨rfl⟩⟩
          have y0 := dz.arr_cell 0 (by rw [Tl.out]; omega)
          have y1 := dz.arr_cell 1 (by rw [Tl.out]; omega)
          have y2 := dz.arr_cell 2 (by rw [Tl.out]; omega)
          have y3 := dz.arr_cell 3 (by rw [Tl.out]; omega)
          rw [X0.out] at y0
          rw [X1.out] at y1
          rw [X2.out] at y2
          rw [X3.out] at y3
          have l0 := n8_ilt x0
          have l1 := n8_ilt x1
          have l2 := n8_ilt x2
          have l3 := n8_ilt x3
          have q0 : wo.cell? ⟨g, 241 + n8 x0, none⟩ = some (.int .u8 (n8 (Aes.sb x0))) := (b1.cell _).trans (refCells_box _ _ hZ.out x0)
          have q1 : wo.cell? ⟨g, 241 + n8 x1, none⟩ = some (.int .u8 (n8 (Aes.sb x1))) := (b1.cell _).trans (refCells_box _ _ hZ.out x1)
          have q2 : wo.cell? ⟨g, 241 + n8 x2, none⟩ = some (.int .u8 (n8 (Aes.sb x2))) := (b1.cell _).trans (refCells_box _ _ hZ.out x2)
          have q3 : wo.cell? ⟨g, 241 + n8 x3, none⟩ = some (.int .u8 (n8 (Aes.sb x3))) := (b1.cell _).trans (refCells_box _ _ hZ.out x3)
          go_wp2_with fail
          go_still_tail 31, (by kernel_rfl)
          try refine still_build rfl 120 _ rfl _ rfl _ (built4 _ _ _ _ rfl rfl rfl rfl) ?_
          repeat still_step
          try refine wpStill_nil ?_
          change wpList _ _ _ _ _ wo.drew
          try simp only [Act.put, List.setIfInBounds_toArray, List.set_cons_zero, List.set_cons_succ]
          clear q0 q1 q2 q3 l0 l1 l2 l3 y0 y1 y2 y3
          have Hcells := hd (show (#[Value.int .u8 (n8 (Aes.sb x1 ^^^ one)), Value.int .u8 (n8 (Aes.sb x2)), Value.int .u8 (n8 (Aes.sb x3)), Value.int .u8 (n8 (Aes.sb x0))] : Array Value) = arr [Aes.sb x1 ^^^ one, Aes.sb x2, Aes.sb x3, Aes.sb x0] from rfl)
          rw [Hcells.out]
          obtain ⟨T2, HT2⟩ : ∃ t, Hd ([Aes.sb x1 ^^^ one, Aes.sb x2, Aes.sb x3, Aes.sb x0] = t) := ⟨_, ⟨rfl⟩⟩
          rw [HT2.out]
          have T2l := hd (show T2.length = 4 by rw [← HT2.out]; rfl)
          have hzne1 := dz.ne_ b2 (by decide)
          have hzne0 := dz.ne_ b1 (by decide)
          have Hst := hd (show Aes.keyStep 32 (k - 8) (al, one) = (iter (Aes.extStep 32 T2) 4 al, Aes.twice one) by
            have e : Aes.keyT 32 al one = T2 := by rw [Aes.keyT, if_pos (by rw [Hal.out]; have := Hm.out; omega), HT.out, X0.out, X1.out, X2.out, X3.out, HT2.out]
            rw [Aes.keyStep, e, Aes.keyOne, if_pos (by rw [Hal.out]; have := Hm.out; omega)])
          go_wp2_with (first | ((refine wpl_store_arr rfl 120 _ _ rfl z T2 rfl rfl 120 _ dz.drew 4 ty4.size T2l.out (by rw [arr_size, Tl.out]) ?_); refine wpl_name (fun wx => Blk wx g 119 (refCells Aes.zeros 14) ∧ Blk wx (g + 1) 121 (arr (Aes.pad al)) ∧ Blk wx z 120 (arr T2) ∧ Below w.heap.size w wx) ⟨b1.drew.farRow (by omega) _, b2.drew.farRow (by omega) _, dz.drew.setRow _, below_setRow hB.drew (by have := hB.size; have := Hz.out; omega) _⟩ ?_; rintro wx ⟨c1, c2, cz, hC⟩) | (go_at_call 66; refine (times_any one 2 _).mono ?_; rintro e w4 ⟨rfl, rfl⟩; rw [Aes.times_two]))
          clear b1 b2 dz hB
          have b1 := c1
          have b2 := c2
          have dz := cz
          have hB := hC
          clear c1 c2 cz hC
          go_loopw [10] (fun i wx => ∃ e : Nat, e ≤ 4 ∧ i = .int .i64 (e : Int) ∧ Blk wx g 119 (refCells Aes.zeros 14) ∧ Blk wx (g + 1) 121 (arr (Aes.pad (iter (Aes.extStep 32 T2) e al))) ∧ Blk wx z 120 (arr T2) ∧ Below w.heap.size w wx) (fun i _ => 4 - (intOf i).toNat)
          case atStart => exact ⟨0, by omega, rfl, b1, b2, dz, hB⟩
          case round =>
            clear b1 b2 dz hB
            obtain ⟨e, he4, rfl, b1, b2, dz, hB⟩ := hrel
            obtain ⟨ae, Hae⟩ : ∃ a, Hd (iter (Aes.extStep 32 T2) e al = a) := ⟨_, ⟨rfl⟩⟩
            rw [Hae.out] at b2
            have Hael := hd (show ae.length = 4 * k + e by rw [← Hae.out, Aes.ext_len, Hal.out])
            by_cases hlt : e < 4
            · have te : (e : Int) < 4 := by omega
              have Hpl := hd (show (Aes.pad ae).length = 240 from Aes.pad_len _ (by rw [Hael.out]; omega))
              have c0 := b2.arr_cell ((k - 8) * 4 + e) (by rw [Hpl.out]; omega)
              rw [Aes.pad_nth _ _ (by rw [Hael.out]; omega)] at c0
              have c1 := dz.arr_cell e (by rw [T2l.out]; exact hlt)
              have c2 := b2.arr_cell (k * 4 + e) (by rw [Hpl.out]; omega)
              have f2 := b2.frozen (k * 4 + e)
              have v1 : IntKind.i64.wrap ((k : Int) - 8) = (k : Int) - 8 := IntWalk.i64_in _ (by omega)
              have v2 : ((k : Int) - 8).toNat = k - 8 := by omega
              have v3 : 0 ≤ (k : Int) - 8 := by omega
              have v4 : (k : Int) - 8 < 60 := by omega
              have v5 : (k : Int) < 60 := by omega
              have hz1 := dz.ne_ b2 (by decide)
              have hz0 := dz.ne_ b1 (by decide)
              go_wp2
              go_still_tail 15, (by kernel_rfl)
              change wpList _ _ _ _ _ wr.drew
              go_wp2
              clear v1 v2 v3 v4 v5
              go_roundw
              case rel =>
                have b2' := b2.drew.arr_set (k * 4 + e) (nth ae ((k - 8) * 4 + e) ^^^ nth T2 e)
                rw [show k * 4 + e = ae.length by rw [Hael.out]; omega, Aes.pad_set _ _ (by rw [Hael.out]; omega)] at b2'
                refine ⟨e + 1, by omega, by go_num, b1.drew.far (by simp) _, ?_, dz.drew.far (by simp; omega) _, hB.drew.setCell (by simp; omega) _⟩
                rw [iter, Hae.out, Aes.extStep, Hael.out, show 4 * k + e - 32 = (k - 8) * 4 + e by omega, show k * 4 + e = ae.length by rw [Hael.out]; omega]
                exact b2'
              case measure => simp [intOf]; omega
            · have e4 : e = 4 := by omega
              subst e4
              have te : ¬ ((4 : Nat) : Int) < 4 := by omega
              go_wp2
              have Hnx := hd (show Aes.refSt key 8 (k + 1) = (ae, Aes.twice one) by
                rw [show k + 1 = 8 + (k - 8 + 1) by omega, Aes.refSt_hi, Aes.keyRun_succ, Hkr.out, Hk.out, Hst.out, Hae.out])
              go_roundw
              case rel => exact ⟨k + 1, by omega, by go_num, by rw [Hnx.out], b1, by rw [Hnx.out]; exact b2, hB⟩
              case measure => simp [intOf]; omega
        · have tm : ¬ (m : Int) = 0 := by omega
          have tm2 : ((m : Int) == 0) = false := by rw [beq_eq_false_iff_ne]; exact tm
          by_cases hm4 : m = 4
          · have tm4 : (m : Int) = 4 := by omega
            subst hm4
            go_wp2_with (first | (refine wpl_load_arr rfl 120 _ rfl _ rfl 4 ty4 T Tl.out hcs ?_) | (refine wpl_alloc rfl 120 rfl _ zero4 ?_) | ((refine wpl_store_arr rfl 120 _ _ rfl wr.heap.size T rfl rfl 120 _ (Blk.nu rfl) 4 ty4.size Tl.out (by rw [arr_size]; rfl) ?_); refine wpl_name (fun wo => Blk wo g 119 (refCells Aes.zeros 14) ∧ Blk wo (g + 1) 121 (arr (Aes.pad al)) ∧ Blk wo wr.heap.size 120 (arr T) ∧ Below w.heap.size w wo) ⟨(b1.alloc _).farRow (by omega) _, (b2.alloc _).farRow (by omega) _, (Blk.nu rfl).setRow _, below_setRow (hB.alloc hB.size _) hB.size _⟩ ?_; rintro wo ⟨b1, b2, dz, hB⟩))
            obtain ⟨z, Hz⟩ : ∃ z, Hd (wr.heap.size = z) := ⟨_, ⟨rfl⟩⟩
            rw [Hz.out] at dz ⊢
            clear hcs v1 v2 v3 v4 cN
            obtain ⟨x0, X0⟩ : ∃ x, Hd (nth T 0 = x) := ⟨_, ⟨rfl⟩⟩
            obtain ⟨x1, X1⟩ : ∃ x, Hd (nth T 1 = x) := ⟨_, ⟨rfl⟩⟩
            obtain ⟨x2, X2⟩ : ∃ x, Hd (nth T 2 = x) := ⟨_, ⟨rfl⟩⟩
            obtain ⟨x3, X3⟩ : ∃ x, Hd (nth T 3 = x) := ⟨_, ⟨rfl⟩⟩
            have y0 := dz.arr_cell 0 (by rw [Tl.out]; omega)
            have y1 := dz.arr_cell 1 (by rw [Tl.out]; omega)
            have y2 := dz.arr_cell 2 (by rw [Tl.out]; omega)
            have y3 := dz.arr_cell 3 (by rw [Tl.out]; omega)
            rw [X0.out] at y0
            rw [X1.out] at y1
            rw [X2.out] at y2
            rw [X3.out] at y3
            have l0 := n8_ilt x0
            have l1 := n8_ilt x1
            have l2 := n8_ilt x2
            have l3 := n8_ilt x3
            have q0 : wo.cell? ⟨g, 241 + n8 x0, none⟩ = some (.int .u8 (n8 (Aes.sb x0))) := (b1.cell _).trans (refCells_box _ _ hZ.out x0)
            have q1 : wo.cell? ⟨g, 241 + n8 x1, none⟩ = some (.int .u8 (n8 (Aes.sb x1))) := (b1.cell _).trans (refCells_box _ _ hZ.out x1)
            have q2 : wo.cell? ⟨g, 241 + n8 x2, none⟩ = some (.int .u8 (n8 (Aes.sb x2))) := (b1.cell _).trans (refCells_box _ _ hZ.out x2)
            have q3 : wo.cell? ⟨g, 241 + n8 x3, none⟩ = some (.int .u8 (n8 (Aes.sb x3))) := (b1.cell _).trans (refCells_box _ _ hZ.out x3)
            go_wp2_with fail
            go_still_tail 29, (by kernel_rfl)
            try refine still_build rfl 120 _ rfl _ rfl _ (built4 _ _ _ _ rfl rfl rfl rfl) ?_
            repeat still_step
            try refine wpStill_nil ?_
            change wpList _ _ _ _ _ wo.drew
            try simp only [Act.put, List.setIfInBounds_toArray, List.set_cons_zero, List.set_cons_succ]
            clear q0 q1 q2 q3 l0 l1 l2 l3 y0 y1 y2 y3
            have Hcells := hd (show (#[Value.int .u8 (n8 (Aes.sb x0)), Value.int .u8 (n8 (Aes.sb x1)), Value.int .u8 (n8 (Aes.sb x2)), Value.int .u8 (n8 (Aes.sb x3))] : Array Value) = arr [Aes.sb x0, Aes.sb x1, Aes.sb x2, Aes.sb x3] from rfl)
            rw [Hcells.out]
            obtain ⟨T2, HT2⟩ : ∃ t, Hd ([Aes.sb x0, Aes.sb x1, Aes.sb x2, Aes.sb x3] = t) := ⟨_, ⟨rfl⟩⟩
            rw [HT2.out]
            have T2l := hd (show T2.length = 4 by rw [← HT2.out]; rfl)
            have hzne1 := dz.ne_ b2 (by decide)
            have hzne0 := dz.ne_ b1 (by decide)
            have Hst := hd (show Aes.keyStep 32 (k - 8) (al, one) = (iter (Aes.extStep 32 T2) 4 al, one) by
              have e : Aes.keyT 32 al one = T2 := by
                rw [keyT_mid _ _ _ (by rw [Hal.out]; have := Hm.out; omega) rfl (by rw [Hal.out]; have := Hm.out; omega), HT.out, Aes.sbStep_all T Tl.out, X0.out, X1.out, X2.out, X3.out, HT2.out]
              rw [Aes.keyStep, e, Aes.keyOne, if_neg (by rw [Hal.out]; have := Hm.out; omega)])
            go_wp2_with (first | ((refine wpl_store_arr rfl 120 _ _ rfl z T2 rfl rfl 120 _ dz.drew 4 ty4.size T2l.out (by rw [arr_size, Tl.out]) ?_); refine wpl_name (fun wx => Blk wx g 119 (refCells Aes.zeros 14) ∧ Blk wx (g + 1) 121 (arr (Aes.pad al)) ∧ Blk wx z 120 (arr T2) ∧ Below w.heap.size w wx) ⟨b1.drew.farRow (by omega) _, b2.drew.farRow (by omega) _, dz.drew.setRow _, below_setRow hB.drew (by have := hB.size; have := Hz.out; omega) _⟩ ?_; rintro wx ⟨c1, c2, cz, hC⟩))
            clear b1 b2 dz hB
            have b1 := c1
            have b2 := c2
            have dz := cz
            have hB := hC
            clear c1 c2 cz hC
            go_loopw [10] (fun i wx => ∃ e : Nat, e ≤ 4 ∧ i = .int .i64 (e : Int) ∧ Blk wx g 119 (refCells Aes.zeros 14) ∧ Blk wx (g + 1) 121 (arr (Aes.pad (iter (Aes.extStep 32 T2) e al))) ∧ Blk wx z 120 (arr T2) ∧ Below w.heap.size w wx) (fun i _ => 4 - (intOf i).toNat)
            case atStart => exact ⟨0, by omega, rfl, b1, b2, dz, hB⟩
            case round =>
              clear b1 b2 dz hB
              obtain ⟨e, he4, rfl, b1, b2, dz, hB⟩ := hrel
              obtain ⟨ae, Hae⟩ : ∃ a, Hd (iter (Aes.extStep 32 T2) e al = a) := ⟨_, ⟨rfl⟩⟩
              rw [Hae.out] at b2
              have Hael := hd (show ae.length = 4 * k + e by rw [← Hae.out, Aes.ext_len, Hal.out])
              by_cases hlt : e < 4
              · have te : (e : Int) < 4 := by omega
                have Hpl := hd (show (Aes.pad ae).length = 240 from Aes.pad_len _ (by rw [Hael.out]; omega))
                have c0 := b2.arr_cell ((k - 8) * 4 + e) (by rw [Hpl.out]; omega)
                rw [Aes.pad_nth _ _ (by rw [Hael.out]; omega)] at c0
                have c1 := dz.arr_cell e (by rw [T2l.out]; exact hlt)
                have c2 := b2.arr_cell (k * 4 + e) (by rw [Hpl.out]; omega)
                have f2 := b2.frozen (k * 4 + e)
                have v1 : IntKind.i64.wrap ((k : Int) - 8) = (k : Int) - 8 := IntWalk.i64_in _ (by omega)
                have v2 : ((k : Int) - 8).toNat = k - 8 := by omega
                have v3 : 0 ≤ (k : Int) - 8 := by omega
                have v4 : (k : Int) - 8 < 60 := by omega
                have v5 : (k : Int) < 60 := by omega
                have hz1 := dz.ne_ b2 (by decide)
                have hz0 := dz.ne_ b1 (by decide)
                go_wp2
                go_still_tail 15, (by kernel_rfl)
                change wpList _ _ _ _ _ wr.drew
                go_wp2
                clear v1 v2 v3 v4 v5
                go_roundw
                case rel =>
                  have b2' := b2.drew.arr_set (k * 4 + e) (nth ae ((k - 8) * 4 + e) ^^^ nth T2 e)
                  rw [show k * 4 + e = ae.length by rw [Hael.out]; omega, Aes.pad_set _ _ (by rw [Hael.out]; omega)] at b2'
                  refine ⟨e + 1, by omega, by go_num, b1.drew.far (by simp) _, ?_, dz.drew.far (by simp; omega) _, hB.drew.setCell (by simp; omega) _⟩
                  rw [iter, Hae.out, Aes.extStep, Hael.out, show 4 * k + e - 32 = (k - 8) * 4 + e by omega, show k * 4 + e = ae.length by rw [Hael.out]; omega]
                  exact b2'
                case measure => simp [intOf]; omega
              · have e4 : e = 4 := by omega
                subst e4
                have te : ¬ ((4 : Nat) : Int) < 4 := by omega
                go_wp2
                have Hnx := hd (show Aes.refSt key 8 (k + 1) = (ae, one) by
                  rw [show k + 1 = 8 + (k - 8 + 1) by omega, Aes.refSt_hi, Aes.keyRun_succ, Hkr.out, Hk.out, Hst.out, Hae.out])
                go_roundw
                case rel => exact ⟨k + 1, by omega, by go_num, by rw [Hnx.out], b1, by rw [Hnx.out]; exact b2, hB⟩
                case measure => simp [intOf]; omega
          · have tm4 : ((m : Int) == 4) = false := by rw [beq_eq_false_iff_ne]; omega
            go_wp2_with (first | (refine wpl_load_arr rfl 120 _ rfl _ rfl 4 ty4 T Tl.out hcs ?_) | (refine wpl_alloc rfl 120 rfl _ zero4 ?_) | ((refine wpl_store_arr rfl 120 _ _ rfl wr.heap.size T rfl rfl 120 _ (Blk.nu rfl) 4 ty4.size Tl.out (by rw [arr_size]; rfl) ?_); refine wpl_name (fun wo => Blk wo g 119 (refCells Aes.zeros 14) ∧ Blk wo (g + 1) 121 (arr (Aes.pad al)) ∧ Blk wo wr.heap.size 120 (arr T) ∧ Below w.heap.size w wo) ⟨(b1.alloc _).farRow (by omega) _, (b2.alloc _).farRow (by omega) _, (Blk.nu rfl).setRow _, below_setRow (hB.alloc hB.size _) hB.size _⟩ ?_; rintro wo ⟨b1, b2, dz, hB⟩))
            obtain ⟨z, Hz⟩ : ∃ z, Hd (wr.heap.size = z) := ⟨_, ⟨rfl⟩⟩
            rw [Hz.out] at dz ⊢
            clear hcs v1 v2 v3 v4 cN
            have Hst := hd (show Aes.keyStep 32 (k - 8) (al, one) = (iter (Aes.extStep 32 T) 4 al, one) by
              have e : Aes.keyT 32 al one = T := by
                rw [Aes.keyT, if_neg (by rw [Hal.out]; have := Hm.out; omega), if_neg (by rw [Hal.out]; have := Hm.out; omega), HT.out]
              rw [Aes.keyStep, e, Aes.keyOne, if_neg (by rw [Hal.out]; have := Hm.out; omega)])
            go_loopw [10] (fun i wx => ∃ e : Nat, e ≤ 4 ∧ i = .int .i64 (e : Int) ∧ Blk wx g 119 (refCells Aes.zeros 14) ∧ Blk wx (g + 1) 121 (arr (Aes.pad (iter (Aes.extStep 32 T) e al))) ∧ Blk wx z 120 (arr T) ∧ Below w.heap.size w wx) (fun i _ => 4 - (intOf i).toNat)
            case atStart => exact ⟨0, by omega, rfl, b1, b2, dz, hB⟩
            case round =>
              clear b1 b2 dz hB
              obtain ⟨e, he4, rfl, b1, b2, dz, hB⟩ := hrel
              obtain ⟨ae, Hae⟩ : ∃ a, Hd (iter (Aes.extStep 32 T) e al = a) := ⟨_, ⟨rfl⟩⟩
              rw [Hae.out] at b2
              have Hael := hd (show ae.length = 4 * k + e by rw [← Hae.out, Aes.ext_len, Hal.out])
              by_cases hlt : e < 4
              · have te : (e : Int) < 4 := by omega
                have Hpl := hd (show (Aes.pad ae).length = 240 from Aes.pad_len _ (by rw [Hael.out]; omega))
                have c0 := b2.arr_cell ((k - 8) * 4 + e) (by rw [Hpl.out]; omega)
                rw [Aes.pad_nth _ _ (by rw [Hael.out]; omega)] at c0
                have c1 := dz.arr_cell e (by rw [Tl.out]; exact hlt)
                have c2 := b2.arr_cell (k * 4 + e) (by rw [Hpl.out]; omega)
                have f2 := b2.frozen (k * 4 + e)
                have v1 : IntKind.i64.wrap ((k : Int) - 8) = (k : Int) - 8 := IntWalk.i64_in _ (by omega)
                have v2 : ((k : Int) - 8).toNat = k - 8 := by omega
                have v3 : 0 ≤ (k : Int) - 8 := by omega
                have v4 : (k : Int) - 8 < 60 := by omega
                have v5 : (k : Int) < 60 := by omega
                have hz1 := dz.ne_ b2 (by decide)
                have hz0 := dz.ne_ b1 (by decide)
                go_wp2
                go_still_tail 15, (by kernel_rfl)
                change wpList _ _ _ _ _ wr.drew
                go_wp2
                clear v1 v2 v3 v4 v5
                go_roundw
                case rel =>
                  have b2' := b2.drew.arr_set (k * 4 + e) (nth ae ((k - 8) * 4 + e) ^^^ nth T e)
                  rw [show k * 4 + e = ae.length by rw [Hael.out]; omega, Aes.pad_set _ _ (by rw [Hael.out]; omega)] at b2'
                  refine ⟨e + 1, by omega, by go_num, b1.drew.far (by simp) _, ?_, dz.drew.far (by simp; omega) _, hB.drew.setCell (by simp; omega) _⟩
                  rw [iter, Hae.out, Aes.extStep, Hael.out, show 4 * k + e - 32 = (k - 8) * 4 + e by omega, show k * 4 + e = ae.length by rw [Hael.out]; omega]
                  exact b2'
                case measure => simp [intOf]; omega
              · have e4 : e = 4 := by omega
                subst e4
                have te : ¬ ((4 : Nat) : Int) < 4 := by omega
                go_wp2
                have Hnx := hd (show Aes.refSt key 8 (k + 1) = (ae, one) by
                  rw [show k + 1 = 8 + (k - 8 + 1) by omega, Aes.refSt_hi, Aes.keyRun_succ, Hkr.out, Hk.out, Hst.out, Hae.out])
                go_roundw
                case rel => exact ⟨k + 1, by omega, by go_num, by rw [Hnx.out], b1, by rw [Hnx.out]; exact b2, hB⟩
                case measure => simp [intOf]; omega
    · have ek : k = 60 := by omega
      subst ek
      have tk : ¬ ((60 : Nat) : Int) < 60 := by omega
      obtain ⟨al, Hs⟩ : ∃ s, Hd ((Aes.refSt key 8 60).1 = s) := ⟨_, ⟨rfl⟩⟩
      have Hal := hd (show al.length = 4 * 60 by rw [← Aes.refSt_len key 8 60 Hk.out, Hs.out])
      have Hall := hd (show Aes.keyAll key = al by rw [Aes.keyAll, ← Hs.out, show 60 = 8 + Aes.rounds key.length by rw [Hk.out]; rfl, Aes.refSt_hi])
      rw [Hs.out] at b2
      go_wp2
      rw [← Aes.pad_nil, show ([] : List UInt8) = al.take (4 * 0) from rfl] at b1
      go_loopw [11] (fun i wi => ∃ k : Nat, k ≤ 60 ∧ i = .int .i64 (k : Int) ∧ Blk wi g 119 (refCells (Aes.pad (al.take (4 * k))) 14) ∧ Blk wi (g + 1) 121 (arr (Aes.pad al)) ∧ Below w.heap.size w wi) (fun i _ => 60 - (intOf i).toNat)
      case atStart => exact ⟨0, by omega, rfl, b1, b2, hB⟩
      case round =>
        clear b1 b2 hB cN
        obtain ⟨k, hkT, rfl, b1, b2, hB⟩ := hrel
        have cN : wr.cell? ⟨g, 240, none⟩ = some (.int .i64 (14 : Nat)) := (b1.cell _).trans (refCells_N _ _ (Aes.pad_len _ (by rw [List.length_take, Hal.out]; omega)))
        by_cases hlt : k < 60
        · have tk : (k : Int) < 60 := by omega
          go_wp2
          clear cN
          go_loopw [12] (fun i wi => ∃ e : Nat, e ≤ 4 ∧ i = .int .i64 (e : Int) ∧ Blk wi g 119 (refCells (Aes.pad (al.take (4 * k + e))) 14) ∧ Blk wi (g + 1) 121 (arr (Aes.pad al)) ∧ Below w.heap.size w wi) (fun i _ => 4 - (intOf i).toNat)
          case atStart => exact ⟨0, by omega, rfl, b1, b2, hB⟩
          case round =>
            clear b1 b2 hB
            obtain ⟨e, he4, rfl, b1, b2, hB⟩ := hrel
            by_cases he : e < 4
            · have te : (e : Int) < 4 := by omega
              obtain ⟨R, HR⟩ : ∃ R, Hd (al.take (4 * k + e) = R) := ⟨_, ⟨rfl⟩⟩
              rw [HR.out] at b1
              have HRl := hd (show R.length = 4 * k + e by rw [← HR.out, List.length_take, Hal.out]; omega)
              obtain ⟨d, Hdd⟩ : ∃ d, Hd (k / 4 = d) := ⟨_, ⟨rfl⟩⟩
              obtain ⟨m, Hm⟩ : ∃ d, Hd (k % 4 = d) := ⟨_, ⟨rfl⟩⟩
              have hm4 : m < 4 := by rw [← Hm.out]; omega
              have hd15 : d < 15 := by rw [← Hdd.out]; omega
              have Hoff := hd (show d * 16 + (4 * m + e) = 4 * k + e by rw [← Hdd.out, ← Hm.out]; omega)
              have vd : (k : Int).tdiv 4 = (d : Int) := by rw [← Hdd.out, Int.tdiv_eq_ediv_of_nonneg (by omega)]; omega
              have vm : (k : Int).tmod 4 = (m : Int) := by rw [← Hm.out, Int.tmod_eq_emod_of_nonneg (by omega)]; omega
              have w1 : IntKind.i64.wrap (d : Int) = (d : Int) := IntWalk.i64_in _ (by omega)
              have w2 : IntKind.i64.wrap (m : Int) = (m : Int) := IntWalk.i64_in _ (by omega)
              have w3 : IntKind.i64.wrap (4 * (m : Int)) = 4 * (m : Int) := IntWalk.i64_in _ (by omega)
              have w4 : IntKind.i64.wrap (4 * (m : Int) + (e : Int)) = 4 * (m : Int) + (e : Int) := IntWalk.i64_in _ (by omega)
              have w5 : (4 * (m : Int) + (e : Int)).toNat = 4 * m + e := by omega
              have u1 : (d : Int) < 15 := by omega
              have u2 : 4 * (m : Int) + (e : Int) < 16 := by omega
              have u3 : 0 ≤ 4 * (m : Int) + (e : Int) := by omega
              have u4 : (k : Int) < 60 := by omega
              have c0 := b2.arr_cell (k * 4 + e) (by rw [Aes.pad_len _ (by rw [Hal.out]; omega)]; omega)
              rw [Aes.pad_nth _ _ (by rw [Hal.out]; omega)] at c0
              have c1 := (b1.cell (d * 16 + (4 * m + e))).trans (refCells_lo _ _ _ (by rw [Aes.pad_len _ (by rw [HRl.out]; omega)]; omega))
              have f1 := b1.frozen (d * 16 + (4 * m + e))
              go_wp2
              go_still_tail 17, (by kernel_rfl)
              change wpList _ _ _ _ _ wr.drew
              go_wp2
              clear vd vm w1 w2 w3 w4 w5 u1 u2 u3 u4
              go_roundw
              case rel =>
                have b1' := b1.drew.set_ (d * 16 + (4 * m + e)) (.int .u8 (n8 (nth al (k * 4 + e))))
                rw [refCells_set _ _ _ _ (by rw [Aes.pad_len _ (by rw [HRl.out]; omega)]; omega), show (Aes.pad R).set (d * 16 + (4 * m + e)) (nth al (k * 4 + e)) = Aes.pad (al.take (4 * k + (e + 1))) by
                  rw [show 4 * k + (e + 1) = (4 * k + e) + 1 by omega, Aes.take_next' al (4 * k + e) (by rw [Hal.out]; omega), HR.out, ← Aes.pad_set _ _ (by rw [HRl.out]; omega), HRl.out, Hoff.out, show k * 4 + e = 4 * k + e by omega]] at b1'
                exact ⟨e + 1, by omega, by go_num, b1', b2.drew.far (by simp) _, hB.drew.setCell (by simp; omega) _⟩
              case measure => simp [intOf]; omega
            · have e4 : e = 4 := by omega
              subst e4
              have te : ¬ ((4 : Nat) : Int) < 4 := by omega
              go_wp2
              go_roundw
              case rel => exact ⟨k + 1, by omega, by go_num, b1, b2, hB⟩
              case measure => simp [intOf]; omega
        · have ek : k = 60 := by omega
          subst ek
          have tk : ¬ ((60 : Nat) : Int) < 60 := by omega
          rw [List.take_of_length_le (by rw [Hal.out]; omega), ← Hall.out] at b1
          go_wp2
          go_ret2
          exact ⟨g, rfl, refAt_keys (by have := Hk.out; omega) b1, hB⟩
end Go.Proofs.Ytbcboldepghgpaa
