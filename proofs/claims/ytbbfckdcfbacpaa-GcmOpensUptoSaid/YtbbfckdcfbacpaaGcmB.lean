/-
  The walks of Galois counter mode's small functions: bytes, a block XOR a block, a product.
-/
import Derived.Test.YtbbfckdcfbacpaaGcmA
import Derived.Test.YtbbfckdcfbacpaaHeldU
import Derived.Test.YtbbfckdcfbacpaaAesSpec
import Derived.BigRegion
set_option linter.unusedVariables false
set_option linter.unusedSimpArgs false
namespace Go.Proofs.Ytbbfckdcfbacpaa
open Go.RowKit
set_option maxHeartbeats 2000000 in
set_option maxRecDepth 100000 in
theorem bytes_any (x : UInt64 × UInt64) (w : World) :
    Calls Try.prog 39 #[.agg (cells2 x)] w fun e w' => e = .returned (.agg (arr (Gcm.bytes x))) ∧ Below w.heap.size w w' := by
  go_enter Try.func39, Try.ntmps39
  go_wp2_with (refine wpl_alloc rfl 32 rfl _ zero16 ?_)
  refine wp_name (fun wo => Blk wo w.heap.size 65 (cells2 x) ∧ Blk wo (w.heap.size + 1) 32 (arr (List.replicate 16 0)) ∧ Blk wo (w.heap.size + 1 + 1) 32 (arr (List.replicate 16 0)) ∧ Below w.heap.size w wo)
    ⟨((Blk.nu (by simp)).alloc _).alloc _, (Blk.nu (by simp)).alloc _, Blk.nu (by simp), (((Below.refl _ _).alloc (by simp) _).alloc (by simp) _).alloc (by simp; omega) _⟩ ?_
  rintro wo ⟨b0, b1, b2, hB⟩
  go_loopw [5] (fun i wr => ∃ k : Nat, k ≤ 8 ∧ i = .int .i64 (k : Int) ∧ Blk wr w.heap.size 65 (cells2 x) ∧ Blk wr (w.heap.size + 1) 32 (arr (List.replicate 16 0)) ∧ Blk wr (w.heap.size + 1 + 1) 32 (arr (iter (Gcm.bytesStep x) k (List.replicate 16 0))) ∧ Below w.heap.size w wr) (fun i _ => 8 - (intOf i).toNat)
  case atStart => exact ⟨0, by omega, rfl, b0, b1, b2, hB⟩
  case round =>
    clear b0 b1 b2 hB
    obtain ⟨k, hk, rfl, b0, b1, b2, hB⟩ := hrel
    obtain ⟨s, Hs⟩ : ∃ s, Hd (iter (Gcm.bytesStep x) k (List.replicate 16 0) = s) := ⟨_, ⟨rfl⟩⟩
    rw [Hs.out] at b2
    have Hl := hd (show s.length = 16 by rw [← Hs.out, Gcm.bytesStep_len]; exact List.length_replicate)
    by_cases hlt : k < 8
    · have tk : (k : Int) < 8 := by omega
      have Hnx := hd (show iter (Gcm.bytesStep x) (k + 1) (List.replicate 16 0) = (s.set k (shr64 x.1 (56 - 8 * k)).toUInt8).set (k + 8) (shr64 x.2 (56 - 8 * k)).toUInt8 by rw [iter, Hs.out]; rfl)
      have c0 := b0.hi
      have c1 := b0.lo
      have d0 := b2.arr_cell k (by rw [Hl.out]; omega)
      have d1 := b2.arr_cell (k + 8) (by rw [Hl.out]; omega)
      have f0 := b2.frozen k
      have f1 := b2.frozen (k + 8)
      have v1 : IntKind.i64.wrap ((k : Int) + 8) = (k : Int) + 8 := IntWalk.i64_in _ (by omega)
      have v2 : ((k : Int) + 8).toNat = k + 8 := by omega
      have v3 : (k : Int) + 8 < 16 := by omega
      have v4 : 0 ≤ (k : Int) + 8 := by omega
      have v5 : (k : Int) < 16 := by omega
      have v6 : IntKind.i64.wrap (8 * (k : Int)) = 8 * (k : Int) := IntWalk.i64_in _ (by omega)
      have e1 : (56 : Int) - 8 * (k : Int) = ((56 - 8 * k : Nat) : Int) := by omega
      have v7 : IntKind.i64.wrap ((56 - 8 * k : Nat) : Int) = ((56 - 8 * k : Nat) : Int) := IntWalk.i64_in _ (by omega)
      go_wp2
      go_region
      go_wp2
      clear v1 v2 v3 v4 v5 v6 v7 e1
      go_roundw
      case rel => exact ⟨k + 1, by omega, by go_num, ((b0.far (by simp <;> omega) _).far (by simp <;> omega) _).drew, ((b1.far (by simp <;> omega) _).far (by simp <;> omega) _).drew, by rw [Hnx.out]; exact ((b2.arr_set _ _).arr_set _ _).drew, ((hB.setCell (by simp <;> omega) _).setCell (by simp <;> omega) _).drew⟩
      case measure => simp [intOf]; omega
    · have ek : k = 8 := by omega
      subst ek
      have tk : ¬ ((8 : Nat) : Int) < 8 := by omega
      have Hfin := hd (show Gcm.bytes x = s by rw [Gcm.bytes, Hs.out])
      go_wp2_with (first | (refine wpl_load_arr rfl 32 _ rfl _ rfl 16 ty16 s Hl.out b2.cells_arr ?_) | (refine wpl_store_arr rfl 32 _ _ rfl (w.heap.size + 1) s rfl rfl 32 _ b1 16 ty16.size Hl.out (by rw [arr_size, List.length_replicate]) ?_))
      rw [Hfin.out]
      exact ret_arr rfl (w.heap.size + 1) rfl ty16 s Hl.out (b1.setRow _).cells_arr rfl ⟨rfl, below_setRow hB (by omega) _⟩
set_option maxHeartbeats 2000000 in
set_option maxRecDepth 100000 in
theorem with08_any (a b : List UInt8) (ha : a.length = 16) (hb : b.length = 16) (w : World) :
    Calls Try.prog 20 #[.agg (arr a), .agg (arr b)] w fun e w' => e = .returned (.agg (arr (Aes.xor16 a b))) ∧ Below w.heap.size w w' := by
  have Ha := hd ha
  have Hb := hd hb
  clear ha hb
  go_enter Try.func20, Try.ntmps20
  go_wp2_with (refine wpl_alloc rfl 32 rfl _ zero16 ?_)
  refine wp_name (fun wo => Blk wo w.heap.size 32 (arr a) ∧ Blk wo (w.heap.size + 1) 32 (arr b) ∧ Blk wo (w.heap.size + 1 + 1) 32 (arr (List.replicate 16 0)) ∧ Below w.heap.size w wo)
    ⟨((Blk.nu (by simp)).alloc _).alloc _, (Blk.nu (by simp)).alloc _, Blk.nu (by simp), (((Below.refl _ _).alloc (by simp) _).alloc (by simp) _).alloc (by simp; omega) _⟩ ?_
  rintro wo ⟨b0, b1, b2, hB⟩
  go_loopw [5] (fun i wr => ∃ k : Nat, k ≤ 16 ∧ i = .int .i64 (k : Int) ∧ Blk wr w.heap.size 32 (arr (iter (Aes.xorStep b) k a)) ∧ Blk wr (w.heap.size + 1) 32 (arr b) ∧ Blk wr (w.heap.size + 1 + 1) 32 (arr (List.replicate 16 0)) ∧ Below w.heap.size w wr) (fun i _ => 16 - (intOf i).toNat)
  case atStart => exact ⟨0, by omega, rfl, b0, b1, b2, hB⟩
  case round =>
    clear b0 b1 b2 hB
    obtain ⟨k, hk, rfl, b0, b1, b2, hB⟩ := hrel
    obtain ⟨s, Hs⟩ : ∃ s, Hd (iter (Aes.xorStep b) k a = s) := ⟨_, ⟨rfl⟩⟩
    rw [Hs.out] at b0
    have Hl := hd (show s.length = 16 by rw [← Hs.out, Aes.xorStep_len, Ha.out])
    by_cases hlt : k < 16
    · have tk : (k : Int) < 16 := by omega
      have c0 := b0.arr_cell k (by rw [Hl.out]; exact hlt)
      have c1 := b1.arr_cell k (by rw [Hb.out]; exact hlt)
      have f0 := b0.frozen k
      go_wp2
      go_still_tail 9, (by kernel_rfl)
      change wpList _ _ _ _ _ wr.drew
      go_wp2
      go_roundw
      case rel => exact ⟨k + 1, by omega, by go_num, by rw [iter, Hs.out]; exact b0.drew.arr_set _ _, b1.drew.far (by simp <;> omega) _, b2.drew.far (by simp <;> omega) _, hB.drew.setCell (by simp <;> omega) _⟩
      case measure => simp [intOf]; omega
    · have ek : k = 16 := by omega
      subst ek
      have tk : ¬ ((16 : Nat) : Int) < 16 := by omega
      have Hfin := hd (show Aes.xor16 a b = s by rw [Aes.xor16_eq, Hs.out])
      go_wp2_with (first | (refine wpl_load_arr rfl 32 _ rfl _ rfl 16 ty16 s Hl.out b0.cells_arr ?_) | (refine wpl_store_arr rfl 32 _ _ rfl (w.heap.size + 1 + 1) s rfl rfl 32 _ b2 16 ty16.size Hl.out (by rw [arr_size, List.length_replicate]) ?_))
      rw [Hfin.out]
      exact ret_arr rfl (w.heap.size + 1 + 1) rfl ty16 s Hl.out (b2.setRow _).cells_arr rfl ⟨rfl, below_setRow hB (by omega) _⟩
/-- Blocks that hold sixteen bytes each, and all that was there before. -/
structure Env (w : World) (bs : List (Nat × List UInt8)) (W : World) : Prop where
  at_ : ∀ p ∈ bs, Blk W p.1 32 (arr p.2)
  old : Below w.heap.size w W
theorem Env.next {w : World} {bs : List (Nat × List UInt8)} {W w' : World} (h : Env w bs W) (hb : Below W.heap.size W w') : Env w bs w' :=
  ⟨fun p hp => (h.at_ p hp).below hb (h.at_ p hp).lt, h.old.trans (hb.mono h.old.size)⟩
theorem Env.call {w : World} {bs : List (Nat × List UInt8)} {W : World} {P : Program} {f : FuncId} {args : Array Value} {v : Value} (h : Env w bs W) (hc : Calls P f args W fun e w' => e = .returned v ∧ Below W.heap.size W w') :
    Calls P f args W fun e w' => e = .returned v ∧ Env w bs w' := hc.mono fun _ _ ⟨he, hb⟩ => ⟨he, h.next hb⟩
theorem enter_of (args : Array Value) (w : World) : (callFunc 36 args).run Try.prog w = .ok (.enter 36 args) w := by kernel_rfl
theorem enter_times (args : Array Value) (w : World) : (callFunc 38 args).run Try.prog w = .ok (.enter 38 args) w := by kernel_rfl
theorem enter_bytes (args : Array Value) (w : World) : (callFunc 39 args).run Try.prog w = .ok (.enter 39 args) w := by kernel_rfl
set_option maxHeartbeats 2000000 in
set_option maxRecDepth 100000 in
theorem mul_any (a b : List UInt8) (ha : a.length = 16) (hb : b.length = 16) (w : World) :
    Calls Try.prog 22 #[.agg (arr a), .agg (arr b)] w fun e w' => e = .returned (.agg (arr (Gcm.mul a b))) ∧ Below w.heap.size w w' := by
  have Ha := hd ha
  have Hb := hd hb
  clear ha hb
  obtain ⟨r, Hr⟩ : ∃ r, Hd (Gcm.mul a b = r) := ⟨_, ⟨rfl⟩⟩
  have Hrl := hd (show r.length = 16 by rw [← Hr.out]; exact Gcm.mul_len _ _)
  have hS0 : Env w [(w.heap.size, a), (w.heap.size + 1, b), (w.heap.size + 1 + 1, if false then r else List.replicate 16 0)] (((w.alloc (.cells (arr a) 32)).alloc (.cells (arr b) 32)).alloc (.cells (arr (List.replicate 16 0)) 32)) := by
    refine ⟨fun p hp => ?_, (((Below.refl _ _).alloc (by simp) _).alloc (by simp) _).alloc (by simp; omega) _⟩
    rcases List.mem_cons.1 hp with rfl | hp
    · exact ((Blk.nu (by simp)).alloc _).alloc _
    rcases List.mem_cons.1 hp with rfl | hp
    · exact (Blk.nu (by simp)).alloc _
    rcases List.mem_cons.1 hp with rfl | hp
    · exact Blk.nu (by simp)
    cases hp
  rw [Hr.out]
  go_enter Try.func22, Try.ntmps22
  go_wp2_with (refine wpl_alloc rfl 32 rfl _ zero16 ?_)
  simp only [Act.put, List.setIfInBounds_toArray, List.set_cons_zero, List.set_cons_succ, World.size_alloc]
  refine u_start (S := fun f => Env w [(w.heap.size, a), (w.heap.size + 1, b), (w.heap.size + 1 + 1, if f then r else List.replicate 16 0)]) 6 (by kernel_rfl) (hS0.next (Below.refl _ _).drew) ?_
  refine u_take 0 rfl (o := _) rfl (by kernel_rfl) (by kernel_rfl) (by kernel_rfl) (.agg (arr a)) (fun _ _ _ h => h) (g_value rfl (wanted_plain rfl) (fun f W hW => run_load_arr (by rfl) (by simp [Act.eval]) ty16 a Ha.out (hW.at_ (w.heap.size, a) (by simp)).cells_arr)) ?_
  simp only [Act.put, List.getElem_toArray, List.getElem_cons_succ, List.getElem_cons_zero, List.setIfInBounds_toArray, List.set_cons_zero, List.set_cons_succ]
  refine u_take 1 rfl (o := _) rfl (by kernel_rfl) (by kernel_rfl) (by kernel_rfl) (.agg (cells2 (Gcm.of a))) (fun _ _ _ h => h) (g_call rfl (wanted_plain rfl) 36 _ _ rfl #[.agg (arr a)] (by simp [Act.eval]) (enter_of _) (fun f W hW => Env.call hW (of_any a Ha.out W))) ?_
  simp only [Act.put, List.getElem_toArray, List.getElem_cons_succ, List.getElem_cons_zero, List.setIfInBounds_toArray, List.set_cons_zero, List.set_cons_succ]
  refine u_take 2 rfl (o := _) rfl (by kernel_rfl) (by kernel_rfl) (by kernel_rfl) (.agg (arr b)) (fun _ _ _ h => h) (g_value rfl (wanted_plain rfl) (fun f W hW => run_load_arr (by rfl) (by simp [Act.eval]) ty16 b Hb.out (hW.at_ (w.heap.size + 1, b) (by simp)).cells_arr)) ?_
  simp only [Act.put, List.getElem_toArray, List.getElem_cons_succ, List.getElem_cons_zero, List.setIfInBounds_toArray, List.set_cons_zero, List.set_cons_succ]
  refine u_take 3 rfl (o := _) rfl (by kernel_rfl) (by kernel_rfl) (by kernel_rfl) (.agg (cells2 (Gcm.of b))) (fun _ _ _ h => h) (g_call rfl (wanted_plain rfl) 36 _ _ rfl #[.agg (arr b)] (by simp [Act.eval]) (enter_of _) (fun f W hW => Env.call hW (of_any b Hb.out W))) ?_
  simp only [Act.put, List.getElem_toArray, List.getElem_cons_succ, List.getElem_cons_zero, List.setIfInBounds_toArray, List.set_cons_zero, List.set_cons_succ]
  refine u_take 4 rfl (o := _) rfl (by kernel_rfl) (by kernel_rfl) (by kernel_rfl) (.agg (cells2 (Gcm.times (Gcm.of a) (Gcm.of b)))) (fun _ _ _ h => h) (g_call rfl (wanted_plain rfl) 38 _ _ rfl #[.agg (cells2 (Gcm.of a)), .agg (cells2 (Gcm.of b))] (by simp [Act.eval]) (enter_times _) (fun f W hW => Env.call hW (times64_any (Gcm.of a) (Gcm.of b) W))) ?_
  simp only [Act.put, List.getElem_toArray, List.getElem_cons_succ, List.getElem_cons_zero, List.setIfInBounds_toArray, List.set_cons_zero, List.set_cons_succ]
  refine u_take 5 rfl (o := _) rfl (by kernel_rfl) (by kernel_rfl) (by kernel_rfl) (.agg (arr r)) (fun _ _ _ h => h) (g_call rfl (wanted_plain rfl) 39 _ _ rfl #[.agg (cells2 (Gcm.times (Gcm.of a) (Gcm.of b)))] (by simp [Act.eval]) (enter_bytes _) (fun f W hW => Env.call hW (by rw [← Hr.out]; exact bytes_any (Gcm.times (Gcm.of a) (Gcm.of b)) W))) ?_
  simp only [Act.put, List.getElem_toArray, List.getElem_cons_succ, List.getElem_cons_zero, List.setIfInBounds_toArray, List.set_cons_zero, List.set_cons_succ]
  refine u_last (o := _) rfl (by kernel_rfl) undef (g_store (wanted_plain rfl) (fun f W hW => ⟨_, run_store_arr (by rfl) (w.heap.size + 1 + 1) r (by simp [Act.eval]) (by simp [Act.eval]) 32 _ (hW.at_ (w.heap.size + 1 + 1, if f then r else List.replicate 16 0) (by simp)) 16 ty16.size Hrl.out (by rw [arr_size]; cases f <;> simp [Hrl.out]), ?_⟩)) ?_
  · refine ⟨fun p hp => ?_, below_setRow hW.old (by omega) _⟩
    rcases List.mem_cons.1 hp with rfl | hp
    · exact (hW.at_ (w.heap.size, a) (by simp)).farRow (by simp <;> omega) _
    rcases List.mem_cons.1 hp with rfl | hp
    · exact (hW.at_ (w.heap.size + 1, b) (by simp)).farRow (by simp <;> omega) _
    rcases List.mem_cons.1 hp with rfl | hp
    · exact (hW.at_ (w.heap.size + 1 + 1, if f then r else List.replicate 16 0) (by simp)).setRow _
    cases hp
  simp only [Act.put, List.getElem_toArray, List.getElem_cons_succ, List.getElem_cons_zero, List.setIfInBounds_toArray, List.set_cons_zero, List.set_cons_succ]
  refine u_done (by kernel_rfl) (fun W hW => ?_) _
  have hW : Env w [(w.heap.size, a), (w.heap.size + 1, b), (w.heap.size + 1 + 1, r)] W := hW
  go_wp2
  exact ret_arr rfl (w.heap.size + 1 + 1) rfl ty16 r Hrl.out ((hW.at_ (w.heap.size + 1 + 1, r) (by simp)).cells_arr) rfl ⟨rfl, hW.old⟩
end Go.Proofs.Ytbbfckdcfbacpaa
