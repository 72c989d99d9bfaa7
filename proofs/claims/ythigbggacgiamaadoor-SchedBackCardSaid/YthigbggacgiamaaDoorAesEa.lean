/-
  The walk of aes.New at a key of 16 bytes (printed by gen_aese.py).
-/
import Derived.Test.YthigbggacgiamaaDoorJb
set_option linter.unusedVariables false
set_option linter.unusedSimpArgs false
set_option maxRecDepth 100000
namespace Go.Proofs.YthigbggacgiamaaDoor
open Go.RowKit

set_option maxHeartbeats 4000000 in
set_option maxRecDepth 100000 in
theorem new_from16 (A : Option Addr) (c : Nat) (key : List UInt8) (w : World) (hr : ReadsB w w.heap.size A 16 key) :
    Calls Tryd.prog 59 #[.slice A 16 c] w fun e w' => ∃ g, e = .returned (.tuple #[.pointer (some ⟨g, 0, none⟩), .int .i64 0]) ∧ KeyFrom w' w.heap.size g (Aes.keys key) ∧ Below w.heap.size w w' := by
  have Hk := hd hr.len
  go_enter Tryd.func59, Tryd.ntmps59
  go_wp2_with fail
  refine (boxes_any _).mono ?_
  rintro e w1 ⟨rfl, hB1⟩
  have hc2 : ([] : List UInt8).length + key.length ≤ 140737488355328 := by rw [Hk.out]; simp
  have hc3 : ∀ o : Obj, w.heap.size ≤ (w1.alloc o).heap.size := by have := hB1.size; intro o; simp; omega
  go_wp2_with (first | (refine wpl_build rfl 135 _ rfl _ rfl _ (key_cells _ sbox_len) ?_) | (at_builtin; refine wpl_appendB rfl _ _ rfl w.heap.size (.slice none 0 0) [] rfl (OwnB.nil _ _) w.heap.size A 16 c key rfl ⟨hr.len, (hr.is.below hB1).alloc hB1.size _⟩ hc2 (hc3 _) ?_; intro v2 w2 own2 gr2 at2))
  have kv2 : KeyInv w2 w.heap.size w1.heap.size v2 key w := ⟨own2, (Blk.nu rfl).appended (OwnB.nil _ w.heap.size) gr2 (by decide), below_appended (hB1.alloc hB1.size _) (OwnB.nil _ w.heap.size) gr2 (Nat.le_refl _) (by have := hB1.size; simp; omega), hB1.size⟩
  obtain ⟨g, Hg⟩ : ∃ g, Hd (w1.heap.size = g) := ⟨_, ⟨rfl⟩⟩
  rw [Hg.out] at kv2 ⊢
  clear own2 gr2 at2 hB1 hr hc3
  go_loopw [6, 7] (fun v one wr => ∃ k : Nat, k ≤ 40 ∧ one = .int .u8 (n8 (Aes.keyRun key k).2) ∧ KeyInv wr w.heap.size g v (Aes.keyRun key k).1 w) (fun v _ _ => 176 - lenOf v)
  case atStart => exact ⟨0, by omega, by rw [Aes.keyRun_zero]; rfl, by rw [Aes.keyRun_zero]; exact kv2⟩
  case round =>
    clear kv2
    obtain ⟨k, hk, rfl, kv⟩ := hrel
    have Hal := hd (show (Aes.keyRun key k).1.length = 16 + 4 * k by rw [Aes.keyRun_len, Hk.out])
    obtain ⟨⟨al, one⟩, Hs⟩ : ∃ s, Hd (Aes.keyRun key k = s) := ⟨_, ⟨rfl⟩⟩
    rw [Hs.out] at kv Hal
    rw [Hs.out]
    dsimp only at kv Hal ⊢
    obtain ⟨G, cap, rfl, hG, hGs, hcap⟩ := kv.own.form (by rw [Hal.out]; omega)
    rw [Hal.out] at hcap ⊢
    by_cases hkR : k < 40
    · have hc4 := kv.own.cells (16 + 4 * k - 4) 4 (by rw [Hal.out]; omega)
      have T4 := hd (show (Aes.last4 al).length = 4 from Aes.last4_len _ (by rw [Hal.out]; omega))
      have hc4 : Cells wr ⟨G, 16 + 4 * k - 4, none⟩ ((Aes.last4 al).map U8) := by rw [Aes.last4, Hal.out]; exact hc4
      obtain ⟨T, HT⟩ : ∃ T, Hd (Aes.last4 al = T) := ⟨_, ⟨rfl⟩⟩
      rw [HT.out] at T4 hc4
      have hgz := kv.key.lt
      have kvA : KeyInv ((wr.alloc (.cells (arr (List.replicate 4 0)) 22)).setRow wr.heap.size (arr T)) w.heap.size g (.slice (some ⟨G, 0, none⟩) (16 + 4 * k) cap) al w := by
        have := kv.moved (grew_setRow (grew_alloc (World.grownBy.refl wr (some wr.heap.size)) (.cells (arr (List.replicate 4 0)) 22)) (arr T)) (by omega) (by rw [ownBlock_slice]; intro e; injection e; omega) (by have := kv.lo; omega)
        rw [Hal.out] at this
        exact this
      clear kv
      by_cases hm : 4 * k % 16 = 0
      ·
        have tm1 : ((16 : Int) + 4 * (k : Int)).tmod 16 = 0 := by rw [Int.tmod_eq_emod_of_nonneg (by omega)]; omega
        have Hm := hd (show al.length % 16 = 0 by rw [Hal.out]; omega)
        clear hm
        go_wp2_with (first | (refine wpl_toArray rfl 22 _ rfl _ _ _ rfl Tryd.underlying22 (by omega) ?_) | (refine wpl_load_arr rfl 22 _ rfl _ rfl 4 ty4 T T4.out hc4 ?_) | (refine wpl_alloc rfl 22 rfl _ zero4 ?_) | ((refine wpl_store_arr rfl 22 _ _ rfl wr.heap.size T rfl rfl 22 _ (Blk.nu rfl) 4 ty4.size T4.out (by rw [arr_size]; rfl) ?_); refine wpl_name (fun wo => KeyInv wo w.heap.size g (.slice (some ⟨G, 0, none⟩) (16 + 4 * k) cap) al w ∧ Blk wo wr.heap.size 22 (arr T)) ⟨kvA, (Blk.nu rfl).setRow _⟩ ?_; rintro wo ⟨kv1, dz⟩) | (refine wpl_load_arr rfl 22 _ rfl _ rfl 4 ty4 T T4.out dz.cells_arr ?_))
        clear tm1
        obtain ⟨x0, Hx0⟩ : ∃ x, Hd (nth T 0 = x) := ⟨_, ⟨rfl⟩⟩
        obtain ⟨x1, Hx1⟩ : ∃ x, Hd (nth T 1 = x) := ⟨_, ⟨rfl⟩⟩
        obtain ⟨x2, Hx2⟩ : ∃ x, Hd (nth T 2 = x) := ⟨_, ⟨rfl⟩⟩
        obtain ⟨x3, Hx3⟩ : ∃ x, Hd (nth T 3 = x) := ⟨_, ⟨rfl⟩⟩
        have c0 := dz.arr_cell 0 (by rw [T4.out]; omega)
        have c1 := dz.arr_cell 1 (by rw [T4.out]; omega)
        have c2 := dz.arr_cell 2 (by rw [T4.out]; omega)
        have c3 := dz.arr_cell 3 (by rw [T4.out]; omega)
        rw [Hx0.out] at c0
        rw [Hx1.out] at c1
        rw [Hx2.out] at c2
        rw [Hx3.out] at c3
        have b0 := kv1.box x0
        have b1 := kv1.box x1
        have b2 := kv1.box x2
        have b3 := kv1.box x3
        have l0 := n8_ilt x0
        have l1 := n8_ilt x1
        have l2 := n8_ilt x2
        have l3 := n8_ilt x3
        have Hkv1 := hd kv1
        clear kv1
        go_still_tail 31, (by kernel_rfl)
        try refine still_build rfl 22 _ rfl _ rfl _ (built4 _ _ _ _ rfl rfl rfl rfl) ?_
        try refine wpStill_nil ?_
        change wpList _ _ _ _ _ wo.drew
        try simp only [Act.put, List.setIfInBounds_toArray, List.set_cons_zero, List.set_cons_succ]
        clear b0 b1 b2 b3 c0 c1 c2 c3 l0 l1 l2 l3
        have HT2 := hd (show [Aes.sb x1 ^^^ one, Aes.sb x2, Aes.sb x3, Aes.sb x0].length = 4 from rfl)
        have Hstep := hd (show Aes.keyStep 16 k (al, one) = (iter (Aes.extStep 16 [Aes.sb x1 ^^^ one, Aes.sb x2, Aes.sb x3, Aes.sb x0]) 4 al, Aes.twice one) by
          have e : Aes.keyT 16 al one = [Aes.sb x1 ^^^ one, Aes.sb x2, Aes.sb x3, Aes.sb x0] := by
            rw [Aes.keyT, if_pos Hm.out, HT.out, Hx0.out, Hx1.out, Hx2.out, Hx3.out]
          have e2 : Aes.keyOne 16 al one = Aes.twice one := by rw [Aes.keyOne, if_pos Hm.out]
          rw [Aes.keyStep, e, e2])
        have Hcells := hd (show (#[Value.int .u8 (n8 (Aes.sb x1 ^^^ one)), Value.int .u8 (n8 (Aes.sb x2)), Value.int .u8 (n8 (Aes.sb x3)), Value.int .u8 (n8 (Aes.sb x0))] : Array Value) = arr [Aes.sb x1 ^^^ one, Aes.sb x2, Aes.sb x3, Aes.sb x0] from rfl)
        rw [Hcells.out]
        obtain ⟨T2, HTT⟩ : ∃ t, Hd ([Aes.sb x1 ^^^ one, Aes.sb x2, Aes.sb x3, Aes.sb x0] = t) := ⟨_, ⟨rfl⟩⟩
        rw [HTT.out] at HT2 Hstep ⊢
        have hgo : Hd (wo.grownBy (wo.drew.setRow wr.heap.size (arr T2)) (some wr.heap.size)) := ⟨grew_setRow (grew_drew (World.grownBy.refl wo _)) _⟩
        go_wp2_with (first | ((refine wpl_store_arr rfl 22 _ _ rfl wr.heap.size T2 rfl rfl 22 _ dz.drew 4 ty4.size HT2.out (by rw [arr_size, T4.out]) ?_); refine wpl_name (fun wx => KeyInv wx w.heap.size g (.slice (some ⟨G, 0, none⟩) (16 + 4 * k) cap) al w ∧ Blk wx wr.heap.size 22 (arr T2)) ⟨Hkv1.out.moved hgo.out (by omega) (by rw [ownBlock_slice]; intro e; injection e; omega) (by have := Hkv1.out.lo; omega), dz.drew.setRow _⟩ ?_; rintro wx ⟨kv3, dz3⟩) | (go_at_call 68; refine (twice_any _ _).mono ?_; rintro e w' ⟨rfl, rfl⟩) | (refine wpl_load_arr rfl 22 _ rfl _ rfl 4 ty4 T2 HT2.out dz3.cells_arr ?_))
        have kv1 := kv3
        clear kv3 dz dz3

        have hidx := fun (j : Nat) (hj : j < 4) (W : World) => run_index_arr (P := Tryd.prog) (w := W) Tryd.underlying22 u8_size u8_noagg T2 HT2.out j hj
        have Hidx := hd hidx
        clear hidx
        go_loopw [6, 107] (fun v i wr => ∃ j : Nat, j ≤ 4 ∧ i = .int .i64 (j : Int) ∧ KeyInv wr w.heap.size g v (iter (Aes.extStep 16 T2) j al) w) (fun _ i _ => 4 - (intOf i).toNat)
        case atStart => exact ⟨0, by omega, rfl, kv1⟩
        case round =>
          clear kv1
          obtain ⟨j, hj, rfl, kv⟩ := hrel
          obtain ⟨ae, Hae⟩ : ∃ ae, Hd (iter (Aes.extStep 16 T2) j al = ae) := ⟨_, ⟨rfl⟩⟩
          rw [Hae.out] at kv
          have Hael := hd (show ae.length = 16 + 4 * k + j by rw [← Hae.out, Aes.ext_len, Hal.out])
          by_cases hj4 : j < 4
          · have hji : (j : Int) < 4 := by omega
            have hidx := fun W => Hidx.out j hj4 W
            obtain ⟨G, cap, rfl, hG, hGs, hcap⟩ := kv.own.form (by rw [Hael.out]; omega)
            have own := kv.own
            have c0 := own.cell (4 * k + j) (by rw [Hael.out]; omega)
            have HT3 := hd (show (16 + 4 * k + j) - 16 = 4 * k + j by omega)
            have c0 : wr.cell? ⟨G, 16 + 4 * k + j - 16, none⟩ = some (.int .u8 (n8 (nth ae (4 * k + j)))) := by rw [HT3.out]; exact c0
            obtain ⟨x, Hx⟩ : ∃ x, Hd (nth ae (4 * k + j) ^^^ nth T2 j = x) := ⟨_, ⟨rfl⟩⟩
            rw [Hael.out] at own hcap ⊢
            have hcl : ae.length + [x].length ≤ 140737488355328 := by rw [Hael.out]; simp; omega
            have own1 : OwnB (wr.alloc (.cells #[.int .u8 (n8 x)] 5)) w.heap.size (.slice (some ⟨G, 0, none⟩) (16 + 4 * k + j) cap) ae := by rw [← Hael.out]; rw [← Hael.out] at own; exact own.alloc _
            have hr1 : ReadsB (wr.alloc (.cells #[.int .u8 (n8 x)] 5)) (wr.heap.size + 1) (some ⟨wr.heap.size, 0, none⟩) 1 [x] := ReadsB.one _ _
            have hB1 : w.heap.size ≤ (wr.alloc (.cells #[.int .u8 (n8 x)] 5)).heap.size := by have := kv.old.size; simp; omega
            have Hkv := hd kv
            clear kv
            go_wp2_with (at_builtin; rw [Hx.out]; refine wpl_appendB rfl _ _ rfl w.heap.size (.slice (some ⟨G, 0, none⟩) (16 + 4 * k + j) cap) ae rfl own1 (wr.heap.size + 1) _ 1 1 [x] rfl hr1 hcl hB1 ?_; intro v2 w2 own2 gr2 at2)
            go_roundw
            case rel =>
              refine ⟨j + 1, by omega, by go_num, ?_⟩
              rw [iter, Hae.out, Aes.extStep, Hael.out, HT3.out, Hx.out]
              have hk1 := Hkv.out.key.alloc (.cells #[.int .u8 (n8 x)] 5)
              exact ⟨own2, hk1.appended own1 gr2 (by decide), below_appended (Hkv.out.old.alloc (by have := Hkv.out.old.size; omega) _) own1 gr2 (Nat.le_refl _) hB1, Hkv.out.lo⟩
            case measure => simp [intOf]; omega
          · have e4 : j = 4 := by omega
            subst e4
            go_wp2
            go_roundw
            case rel =>
              refine ⟨k + 1, by omega, ?_, ?_⟩
              · rw [Aes.keyRun_succ, Hk.out, Hs.out, Hstep.out]
              · rw [Aes.keyRun_succ, Hk.out, Hs.out, Hstep.out]; rw [Hae.out]; exact kv
            case measure =>
              obtain ⟨G2, cap2, e2, _, _, _⟩ := kv.own.form (by rw [Hael.out]; omega)
              subst e2
              rw [Hael.out]; simp [lenOf]; omega

      ·
        have Hm := hd (show ¬ al.length % 16 = 0 by rw [Hal.out]; omega)
        obtain ⟨m, Hmm⟩ : ∃ m, Hd ((16 + 4 * k) % 16 = m) := ⟨_, ⟨rfl⟩⟩
        have hm1 : m ≠ 0 := by rw [← Hmm.out]; omega
        have tm1 : ((16 : Int) + 4 * (k : Int)).tmod 16 = (m : Int) := by rw [Int.tmod_eq_emod_of_nonneg (by omega), ← Hmm.out]; omega
        have tm2 : ((m : Int) == 0) = false := by rw [beq_eq_false_iff_ne]; omega
        clear hm hm1
        go_wp2_with (first | (refine wpl_toArray rfl 22 _ rfl _ _ _ rfl Tryd.underlying22 (by omega) ?_) | (refine wpl_load_arr rfl 22 _ rfl _ rfl 4 ty4 T T4.out hc4 ?_) | (refine wpl_alloc rfl 22 rfl _ zero4 ?_) | ((refine wpl_store_arr rfl 22 _ _ rfl wr.heap.size T rfl rfl 22 _ (Blk.nu rfl) 4 ty4.size T4.out (by rw [arr_size]; rfl) ?_); refine wpl_name (fun wo => KeyInv wo w.heap.size g (.slice (some ⟨G, 0, none⟩) (16 + 4 * k) cap) al w ∧ Blk wo wr.heap.size 22 (arr T)) ⟨kvA, (Blk.nu rfl).setRow _⟩ ?_; rintro wo ⟨kv1, dz⟩) | (refine wpl_load_arr rfl 22 _ rfl _ rfl 4 ty4 T T4.out dz.cells_arr ?_))
        clear tm1
        have Hstep := hd (show Aes.keyStep 16 k (al, one) = (iter (Aes.extStep 16 T) 4 al, one) by
          have e : Aes.keyT 16 al one = T := by
            rw [Aes.keyT, if_neg Hm.out, if_neg (by omega), HT.out]
          have e2 : Aes.keyOne 16 al one = one := by rw [Aes.keyOne, if_neg Hm.out]
          rw [Aes.keyStep, e, e2])
        clear dz
        have hidx := fun (j : Nat) (hj : j < 4) (W : World) => run_index_arr (P := Tryd.prog) (w := W) Tryd.underlying22 u8_size u8_noagg T T4.out j hj
        have Hidx := hd hidx
        clear hidx
        go_loopw [6, 107] (fun v i wr => ∃ j : Nat, j ≤ 4 ∧ i = .int .i64 (j : Int) ∧ KeyInv wr w.heap.size g v (iter (Aes.extStep 16 T) j al) w) (fun _ i _ => 4 - (intOf i).toNat)
        case atStart => exact ⟨0, by omega, rfl, kv1⟩
        case round =>
          clear kv1
          obtain ⟨j, hj, rfl, kv⟩ := hrel
          obtain ⟨ae, Hae⟩ : ∃ ae, Hd (iter (Aes.extStep 16 T) j al = ae) := ⟨_, ⟨rfl⟩⟩
          rw [Hae.out] at kv
          have Hael := hd (show ae.length = 16 + 4 * k + j by rw [← Hae.out, Aes.ext_len, Hal.out])
          by_cases hj4 : j < 4
          · have hji : (j : Int) < 4 := by omega
            have hidx := fun W => Hidx.out j hj4 W
            obtain ⟨G, cap, rfl, hG, hGs, hcap⟩ := kv.own.form (by rw [Hael.out]; omega)
            have own := kv.own
            have c0 := own.cell (4 * k + j) (by rw [Hael.out]; omega)
            have HT3 := hd (show (16 + 4 * k + j) - 16 = 4 * k + j by omega)
            have c0 : wr.cell? ⟨G, 16 + 4 * k + j - 16, none⟩ = some (.int .u8 (n8 (nth ae (4 * k + j)))) := by rw [HT3.out]; exact c0
            obtain ⟨x, Hx⟩ : ∃ x, Hd (nth ae (4 * k + j) ^^^ nth T j = x) := ⟨_, ⟨rfl⟩⟩
            rw [Hael.out] at own hcap ⊢
            have hcl : ae.length + [x].length ≤ 140737488355328 := by rw [Hael.out]; simp; omega
            have own1 : OwnB (wr.alloc (.cells #[.int .u8 (n8 x)] 5)) w.heap.size (.slice (some ⟨G, 0, none⟩) (16 + 4 * k + j) cap) ae := by rw [← Hael.out]; rw [← Hael.out] at own; exact own.alloc _
            have hr1 : ReadsB (wr.alloc (.cells #[.int .u8 (n8 x)] 5)) (wr.heap.size + 1) (some ⟨wr.heap.size, 0, none⟩) 1 [x] := ReadsB.one _ _
            have hB1 : w.heap.size ≤ (wr.alloc (.cells #[.int .u8 (n8 x)] 5)).heap.size := by have := kv.old.size; simp; omega
            have Hkv := hd kv
            clear kv
            go_wp2_with (at_builtin; rw [Hx.out]; refine wpl_appendB rfl _ _ rfl w.heap.size (.slice (some ⟨G, 0, none⟩) (16 + 4 * k + j) cap) ae rfl own1 (wr.heap.size + 1) _ 1 1 [x] rfl hr1 hcl hB1 ?_; intro v2 w2 own2 gr2 at2)
            go_roundw
            case rel =>
              refine ⟨j + 1, by omega, by go_num, ?_⟩
              rw [iter, Hae.out, Aes.extStep, Hael.out, HT3.out, Hx.out]
              have hk1 := Hkv.out.key.alloc (.cells #[.int .u8 (n8 x)] 5)
              exact ⟨own2, hk1.appended own1 gr2 (by decide), below_appended (Hkv.out.old.alloc (by have := Hkv.out.old.size; omega) _) own1 gr2 (Nat.le_refl _) hB1, Hkv.out.lo⟩
            case measure => simp [intOf]; omega
          · have e4 : j = 4 := by omega
            subst e4
            go_wp2
            go_roundw
            case rel =>
              refine ⟨k + 1, by omega, ?_, ?_⟩
              · rw [Aes.keyRun_succ, Hk.out, Hs.out, Hstep.out]
              · rw [Aes.keyRun_succ, Hk.out, Hs.out, Hstep.out]; rw [Hae.out]; exact kv
            case measure =>
              obtain ⟨G2, cap2, e2, _, _, _⟩ := kv.own.form (by rw [Hael.out]; omega)
              subst e2
              rw [Hael.out]; simp [lenOf]; omega

    · have e40 : k = 40 := by omega
      subst e40
      have Hkeys := hd (show Aes.keys key = Aes.pieces al 11 by rw [Aes.keys, Hk.out, Aes.keyAll, Hk.out]; show Aes.pieces (Aes.keyRun key 40).1 11 = _; rw [Hs.out])
      have own := kv.own
      rw [show al.length = 176 from Hal.out] at own
      have hG32 : ∀ (vr : Value) (i : Nat) (ws : World) (xs : List Value), OwnB ws w.heap.size (.slice (some ⟨G, 0, none⟩) 176 cap) al → ws.ownsRow w.heap.size 87 16 vr i xs → vr.ownBlock ≠ some G := fun vr i ws xs h1 h2 => own_own_ne h1.own h2 (by decide) G rfl
      have hcapL : 176 ≤ cap := hcap
      go_wp2_with fail
      go_loopw [6] (fun v wx => ∃ i : Nat, i ≤ 11 ∧ (∃ A, v = .slice A (176 - 16 * i) (cap - 16 * i) ∧ (i < 11 → A = some ⟨G, 16 * i, none⟩)) ∧ OwnB wx w.heap.size (.slice (some ⟨G, 0, none⟩) 176 cap) al ∧
        (∃ vr, Blk wx g 135 (#[vr] ++ arr Aes.sbox) ∧ wx.ownsRow w.heap.size 87 16 vr i ((al.take (16 * i)).map U8)) ∧ Below w.heap.size w wx) (fun v _ => lenOf v)
      case atStart => exact ⟨0, by omega, ⟨_, rfl, fun _ => rfl⟩, own, ⟨_, kv.key, by exact World.ownsRow_nil _ _ _ _⟩, kv.old⟩
      case round =>
        have hgB := kv.lo
        clear kv own
        obtain ⟨i, hi, ⟨A, rfl, hA⟩, own, ⟨vr, key, ownr⟩, hB⟩ := hrel
        by_cases hiR : i < 11
        · have hA := hA hiR
          subst hA
          have own' : OwnB wr w.heap.size (.slice (some ⟨G, 0, none⟩) al.length cap) al := by rw [Hal.out]; exact own
          have hcs := own'.cells (16 * i) 16 (by rw [Hal.out]; omega)
          obtain ⟨p, Hp⟩ : ∃ p, Hd ((al.drop (16 * i)).take 16 = p) := ⟨_, ⟨rfl⟩⟩
          rw [Hp.out] at hcs
          have Hpl := hd (show p.length = 16 by rw [← Hp.out, List.length_take, List.length_drop, Hal.out]; omega)
          have hnG := hG32 _ _ _ _ own ownr
          have hng := own_blk_ne ownr key (by decide)
          have hGlt : G < wr.heap.size := World.block_lt_of_cell? wr _ (own'.cell 0 (by rw [Hal.out]; omega))
          have hglt := key.lt
          have csl : wr.cell? ⟨g, 0, none⟩ = some vr := (key.cell 0).trans (head_cell _ _)
          have fsl : wr.frozen? ⟨g, 0, none⟩ = false := key.frozen 0
          obtain ⟨i32, hi32, hz32, hs32, hb32⟩ := info_parts a16_info
          have hu1 : ∀ u ∈ p.map U8, u.oneCell' = true := by simp [Value.oneCell']
          have hll : (p.map U8).length = 1 * 16 := by rw [List.length_map, Hpl.out]
          have tlen : (0 : Int) < (176 : Int) - 16 * (i : Int) := by omega
          have fsl2 : ∀ o : Obj, (wr.alloc o).frozen? ⟨g, 0, none⟩ = false := fun o => (key.alloc o).frozen 0
          have hun := Tryd.underlying87
          have hsz16 : (Tryd.prog.info? 87).map (·.size) = some (p.map U8).length := by rw [List.length_map, Hpl.out]; exact ty16.size
          have hcnt1 : i + 1 ≤ maxLen := by unfold maxLen; omega
          have hcnt2 : (i + 1) * 16 ≤ 140737488355328 := by omega
          have hBs : ∀ o : Obj, w.heap.size ≤ ((wr.alloc o).drew).heap.size := fun o => by have := hB.size; simp; omega
          have hb1 : 16 ≤ cap - 16 * i := by omega
          have hb2 : (16 : Int) ≤ ((cap - 16 * i : Nat) : Int) := by omega
          have hat := fun (W : World) => run_arrayAt (P := Tryd.prog) (w := W) Tryd.underlying87 (some ⟨G, 16 * i, none⟩) 16 (cap - 16 * i) (Nat.le_refl _)
          go_wp2_with fail
          obtain ⟨p0, p1, p2, p3, p4, p5, p6, p7, p8, p9, p10, p11, p12, p13, p14, p15, hp16⟩ := list16 p Hpl.out
          have Hp16 := hd hp16
          clear hp16
          have cc0 : wr.cell? ⟨G, 16 * i, none⟩ = some (.int .u8 (n8 p0)) := by have := hcs.is 0 (U8 p0) (by rw [Hp16.out]; rfl); rwa [Addr.add_lit] at this
          have cc1 : wr.cell? ⟨G, 16 * i + 1, none⟩ = some (.int .u8 (n8 p1)) := by have := hcs.is 1 (U8 p1) (by rw [Hp16.out]; rfl); rwa [Addr.add_lit] at this
          have cc2 : wr.cell? ⟨G, 16 * i + 2, none⟩ = some (.int .u8 (n8 p2)) := by have := hcs.is 2 (U8 p2) (by rw [Hp16.out]; rfl); rwa [Addr.add_lit] at this
          have cc3 : wr.cell? ⟨G, 16 * i + 3, none⟩ = some (.int .u8 (n8 p3)) := by have := hcs.is 3 (U8 p3) (by rw [Hp16.out]; rfl); rwa [Addr.add_lit] at this
          have cc4 : wr.cell? ⟨G, 16 * i + 4, none⟩ = some (.int .u8 (n8 p4)) := by have := hcs.is 4 (U8 p4) (by rw [Hp16.out]; rfl); rwa [Addr.add_lit] at this
          have cc5 : wr.cell? ⟨G, 16 * i + 5, none⟩ = some (.int .u8 (n8 p5)) := by have := hcs.is 5 (U8 p5) (by rw [Hp16.out]; rfl); rwa [Addr.add_lit] at this
          have cc6 : wr.cell? ⟨G, 16 * i + 6, none⟩ = some (.int .u8 (n8 p6)) := by have := hcs.is 6 (U8 p6) (by rw [Hp16.out]; rfl); rwa [Addr.add_lit] at this
          have cc7 : wr.cell? ⟨G, 16 * i + 7, none⟩ = some (.int .u8 (n8 p7)) := by have := hcs.is 7 (U8 p7) (by rw [Hp16.out]; rfl); rwa [Addr.add_lit] at this
          have cc8 : wr.cell? ⟨G, 16 * i + 8, none⟩ = some (.int .u8 (n8 p8)) := by have := hcs.is 8 (U8 p8) (by rw [Hp16.out]; rfl); rwa [Addr.add_lit] at this
          have cc9 : wr.cell? ⟨G, 16 * i + 9, none⟩ = some (.int .u8 (n8 p9)) := by have := hcs.is 9 (U8 p9) (by rw [Hp16.out]; rfl); rwa [Addr.add_lit] at this
          have cc10 : wr.cell? ⟨G, 16 * i + 10, none⟩ = some (.int .u8 (n8 p10)) := by have := hcs.is 10 (U8 p10) (by rw [Hp16.out]; rfl); rwa [Addr.add_lit] at this
          have cc11 : wr.cell? ⟨G, 16 * i + 11, none⟩ = some (.int .u8 (n8 p11)) := by have := hcs.is 11 (U8 p11) (by rw [Hp16.out]; rfl); rwa [Addr.add_lit] at this
          have cc12 : wr.cell? ⟨G, 16 * i + 12, none⟩ = some (.int .u8 (n8 p12)) := by have := hcs.is 12 (U8 p12) (by rw [Hp16.out]; rfl); rwa [Addr.add_lit] at this
          have cc13 : wr.cell? ⟨G, 16 * i + 13, none⟩ = some (.int .u8 (n8 p13)) := by have := hcs.is 13 (U8 p13) (by rw [Hp16.out]; rfl); rwa [Addr.add_lit] at this
          have cc14 : wr.cell? ⟨G, 16 * i + 14, none⟩ = some (.int .u8 (n8 p14)) := by have := hcs.is 14 (U8 p14) (by rw [Hp16.out]; rfl); rwa [Addr.add_lit] at this
          have cc15 : wr.cell? ⟨G, 16 * i + 15, none⟩ = some (.int .u8 (n8 p15)) := by have := hcs.is 15 (U8 p15) (by rw [Hp16.out]; rfl); rwa [Addr.add_lit] at this
          have cal := fun o : Obj => (World.cell?_alloc_lt wr o ⟨g, 0, none⟩ hglt).trans csl
          go_region_law (first
              | (refine step_append_lies _ (by rfl) _ _ _ (by rfl) w.heap.size 87 i32 _ 16 16 Tryd.underlying133 hi32 hz32 hs32 hb32 (by rfl) (by omega) vr i ((al.take (16 * i)).map U8) (by rfl) ((ownr.alloc _).drew)
                  ⟨wr.heap.size, 0, none⟩ 1 1 [.int .u8 (n8 p0), .int .u8 (n8 p1), .int .u8 (n8 p2), .int .u8 (n8 p3), .int .u8 (n8 p4), .int .u8 (n8 p5), .int .u8 (n8 p6), .int .u8 (n8 p7), .int .u8 (n8 p8), .int .u8 (n8 p9), .int .u8 (n8 p10), .int .u8 (n8 p11), .int .u8 (n8 p12), .int .u8 (n8 p13), .int .u8 (n8 p14), .int .u8 (n8 p15)] (by rfl) (by rfl) (World.news_of_block (cs := #[.int .u8 (n8 p0), .int .u8 (n8 p1), .int .u8 (n8 p2), .int .u8 (n8 p3), .int .u8 (n8 p4), .int .u8 (n8 p5), .int .u8 (n8 p6), .int .u8 (n8 p7), .int .u8 (n8 p8), .int .u8 (n8 p9), .int .u8 (n8 p10), .int .u8 (n8 p11), .int .u8 (n8 p12), .int .u8 (n8 p13), .int .u8 (n8 p14), .int .u8 (n8 p15)]) (t := 87) (fr := (0, 0)) (heap_alloc_new wr _)) (by simp [Value.oneCell']) (by omega) hcnt1 hcnt2 (hBs _) (wr.heap.size + 1) (by simp) ?_; intro gg cap2 w2 own2 gr2 at2 lt2; have key2 := (key.alloc _).drew.grown gr2 (Ne.symm hng); have k2c := (key2.cell 0).trans (head_cell _ _); have k2f := key2.frozen 0))
          all_goals
            have own3 : OwnB w2 w.heap.size (.slice (some ⟨G, 0, none⟩) 176 cap) al := ⟨(own.alloc (.cells #[.int .u8 (n8 p0), .int .u8 (n8 p1), .int .u8 (n8 p2), .int .u8 (n8 p3), .int .u8 (n8 p4), .int .u8 (n8 p5), .int .u8 (n8 p6), .int .u8 (n8 p7), .int .u8 (n8 p8), .int .u8 (n8 p9), .int .u8 (n8 p10), .int .u8 (n8 p11), .int .u8 (n8 p12), .int .u8 (n8 p13), .int .u8 (n8 p14), .int .u8 (n8 p15)] 87)).drew.own.kept gr2 (.inr (Ne.symm (fun e => hnG e)))⟩
            have own4 := own3.far (p := ⟨g, 0, none⟩) (own_blk_ne own3.own key2 (by decide)) (.slice (some ⟨gg, 0, none⟩) (i + 1) cap2)
            have key4 := key2.set_ 0 (.slice (some ⟨gg, 0, none⟩) (i + 1) cap2)
            rw [head_set] at key4
            have hlst : (al.take (16 * i)).map U8 ++ [.int .u8 (n8 p0), .int .u8 (n8 p1), .int .u8 (n8 p2), .int .u8 (n8 p3), .int .u8 (n8 p4), .int .u8 (n8 p5), .int .u8 (n8 p6), .int .u8 (n8 p7), .int .u8 (n8 p8), .int .u8 (n8 p9), .int .u8 (n8 p10), .int .u8 (n8 p11), .int .u8 (n8 p12), .int .u8 (n8 p13), .int .u8 (n8 p14), .int .u8 (n8 p15)] = (al.take (16 * (i + 1))).map U8 := by
              have e1 : [.int .u8 (n8 p0), .int .u8 (n8 p1), .int .u8 (n8 p2), .int .u8 (n8 p3), .int .u8 (n8 p4), .int .u8 (n8 p5), .int .u8 (n8 p6), .int .u8 (n8 p7), .int .u8 (n8 p8), .int .u8 (n8 p9), .int .u8 (n8 p10), .int .u8 (n8 p11), .int .u8 (n8 p12), .int .u8 (n8 p13), .int .u8 (n8 p14), .int .u8 (n8 p15)] = p.map U8 := by rw [Hp16.out]; rfl
              rw [e1, ← Hp.out, ← List.map_append, ← List.take_add, show 16 * i + 16 = 16 * (i + 1) by omega]
            rw [hlst] at own2
            have ownr4 := ownsRow_setCell_other own2 (a := ⟨g, 0, none⟩) (own_blk_ne own2 key2 (by decide)) (.slice (some ⟨gg, 0, none⟩) (i + 1) cap2)
            have hB4 := ((hB.alloc hB.size (.cells #[.int .u8 (n8 p0), .int .u8 (n8 p1), .int .u8 (n8 p2), .int .u8 (n8 p3), .int .u8 (n8 p4), .int .u8 (n8 p5), .int .u8 (n8 p6), .int .u8 (n8 p7), .int .u8 (n8 p8), .int .u8 (n8 p9), .int .u8 (n8 p10), .int .u8 (n8 p11), .int .u8 (n8 p12), .int .u8 (n8 p13), .int .u8 (n8 p14), .int .u8 (n8 p15)] 87)).drew.grown gr2 (hBs _) (fun k hk => (ownr.lt k hk).1)).setCell (p := ⟨g, 0, none⟩) hgB (.slice (some ⟨gg, 0, none⟩) (i + 1) cap2)
            have Hfacts := hd (And.intro own4 (And.intro key4 (And.intro ownr4 hB4)))
            clear own4 key4 ownr4 hB4 own2 own3 gr2 at2 key2 k2c k2f hlst
            by_cases hcc : cap - 16 * i = 16
            · go_wp2
              go_roundw
              case rel =>
                obtain ⟨f1, f2, f3, f4⟩ := Hfacts.out
                first | exact ⟨i + 1, by omega, ⟨_, by rw [show 176 - 16 * (i + 1) = 176 - 16 * i - 16 by omega, show cap - 16 * (i + 1) = 0 by omega], fun h => absurd h (by omega)⟩, f1, ⟨_, f2, f3⟩, f4⟩ | ((repeat apply Exists.intro); exact ⟨⟨i + 1, by omega, ⟨_, by rw [show 176 - 16 * (i + 1) = 176 - 16 * i - 16 by omega, show cap - 16 * (i + 1) = 0 by omega], fun h => absurd h (by omega)⟩, f1, ⟨_, f2, f3⟩, f4⟩, rfl⟩)
              case measure => simp [lenOf]; omega
            · go_wp2
              go_roundw
              case rel =>
                obtain ⟨f1, f2, f3, f4⟩ := Hfacts.out
                first | exact ⟨i + 1, by omega, ⟨_, by rw [show 176 - 16 * (i + 1) = 176 - 16 * i - 16 by omega, show cap - 16 * (i + 1) = cap - 16 * i - 16 by omega], fun _ => by simp⟩, f1, ⟨_, f2, f3⟩, f4⟩ | ((repeat apply Exists.intro); exact ⟨⟨i + 1, by omega, ⟨_, by rw [show 176 - 16 * (i + 1) = 176 - 16 * i - 16 by omega, show cap - 16 * (i + 1) = cap - 16 * i - 16 by omega], fun _ => by simp⟩, f1, ⟨_, f2, f3⟩, f4⟩, rfl⟩)
              case measure => simp [lenOf]; omega
        · have ei : i = 11 := by omega
          subst ei
          have tl : ¬ (0 : Int) < ((176 - 16 * 11 : Nat) : Int) := by omega
          go_wp2
          go_ret2
          obtain ⟨rb, rc, rfl, hrlo, hrlt⟩ := ownsRow_form ownr (by omega)
          refine ⟨g, rfl, ⟨rb, rc, hrlo, hgB, hrlt, ?_, fun i hi => ?_⟩, hB⟩
          · rw [Hkeys.out, Aes.pieces_len]; exact key
          · rw [Hkeys.out, Aes.pieces_len] at hi
            rw [Hkeys.out, Aes.pieces_get _ _ _ hi]
            refine ⟨by rw [List.length_take, List.length_drop, Hal.out]; omega, own_cells ownr (i * 16) _ fun j u hu => ?_⟩
            rw [List.getElem?_map] at hu ⊢
            rw [List.getElem?_take, List.getElem?_drop] at hu
            rw [List.getElem?_take]
            split at hu
            · rw [if_pos (by omega), show i * 16 + j = 16 * i + j by omega]; exact hu
            · cases hu
theorem new_made16 (A : Option Addr) (c : Nat) (key : List UInt8) (w : World) (hr : ReadsB w w.heap.size A 16 key) :
    Calls Tryd.prog 59 #[.slice A 16 c] w fun e w' => ∃ g, e = .returned (.tuple #[.pointer (some ⟨g, 0, none⟩), .int .i64 0]) ∧ KeyAt w' g (Aes.keys key) ∧ Below w.heap.size w w' :=
  (new_from16 A c key w hr).mono (by rintro e w' ⟨g, he, hk, hb⟩; exact ⟨g, he, hk.at_, hb⟩)
end Go.Proofs.YthigbggacgiamaaDoor
