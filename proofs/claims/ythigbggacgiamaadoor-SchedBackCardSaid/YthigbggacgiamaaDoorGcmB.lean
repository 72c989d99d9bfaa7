/-
  The walks of Galois counter mode's small functions: bytes, a block XOR a block, a product.
-/
import Derived.Test.YthigbggacgiamaaDoorGcmA
import Derived.Test.YthigbggacgiamaaDoorJa
import Derived.BigRegion
set_option linter.unusedVariables false
set_option linter.unusedSimpArgs false
set_option maxRecDepth 100000
namespace Go.Proofs.YthigbggacgiamaaDoor
open Go.RowKit
set_option maxHeartbeats 2000000 in
set_option maxRecDepth 100000 in
theorem bytes_any (x : UInt64 × UInt64) (w : World) :
    Calls Tryd.prog 72 #[.agg (cells2 x)] w fun e w' => e = .returned (.agg (arr (Gcm.bytes x))) ∧ Below w.heap.size w w' := by
  go_enter Tryd.func72, Tryd.ntmps72
  go_wp2_with (refine wpl_alloc rfl 87 rfl _ zero16 ?_)
  refine wp_name (fun wo => Blk wo w.heap.size 138 (cells2 x) ∧ Blk wo (w.heap.size + 1) 87 (arr (List.replicate 16 0)) ∧ Blk wo (w.heap.size + 1 + 1) 87 (arr (List.replicate 16 0)) ∧ Below w.heap.size w wo)
    ⟨((Blk.nu (by simp)).alloc _).alloc _, (Blk.nu (by simp)).alloc _, Blk.nu (by simp), (((Below.refl _ _).alloc (by simp) _).alloc (by simp) _).alloc (by simp; omega) _⟩ ?_
  rintro wo ⟨b0, b1, b2, hB⟩
  go_loopw [5] (fun i wr => ∃ k : Nat, k ≤ 8 ∧ i = .int .i64 (k : Int) ∧ Blk wr w.heap.size 138 (cells2 x) ∧ Blk wr (w.heap.size + 1) 87 (arr (List.replicate 16 0)) ∧ Blk wr (w.heap.size + 1 + 1) 87 (arr (iter (Gcm.bytesStep x) k (List.replicate 16 0))) ∧ Below w.heap.size w wr) (fun i _ => 8 - (intOf i).toNat)
  case atStart => exact ⟨0, by omega, rfl, b0, b1, b2, hB⟩
  case round =>
    clear b0 b1 b2 hB
    obtain ⟨k, hk, rfl, b0, b1, b2, hB⟩ := hrel
    obtain ⟨s, Hs⟩ : ∃ s, Hd (iter (Gcm.bytesStep x) k (List.replicate 16 0) = s) := ⟨_, ⟨rfl⟩⟩
    rw [Hs.out] at b2
    have Hl := hd (show s.length = 16 by rw [← Hs.out, Gcm.bytesStep_len]; exact List.length_replicate)
    by_cases hlt : k < 8
    · have tk : (k : Int) < 8 := by omega
      have Hnx := hd (show iter (Gcm.bytesStep x) (k + 1) (List.replicate 16 0) = (s.set k (shr64 x.1 (56 - 8 * k)).toUInt8).set (k + 8) (shr64 x.2 (56 - 8 * k)).toUInt8 by rw [iter, Hs.out]; rfl)
      have c0 := b0.hi
      have c1 := b0.lo
      have d0 := b2.arr_cell k (by rw [Hl.out]; omega)
      have d1 := b2.arr_cell (k + 8) (by rw [Hl.out]; omega)
      have f0 := b2.frozen k
      have f1 := b2.frozen (k + 8)
      have v1 : IntKind.i64.wrap ((k : Int) + 8) = (k : Int) + 8 := IntWalk.i64_in _ (by omega)
      have v2 : ((k : Int) + 8).toNat = k + 8 := by omega
      have v3 : (k : Int) + 8 < 16 := by omega
      have v4 : 0 ≤ (k : Int) + 8 := by omega
      have v5 : (k : Int) < 16 := by omega
      have v6 : IntKind.i64.wrap (8 * (k : Int)) = 8 * (k : Int) := IntWalk.i64_in _ (by omega)
      have e1 : (56 : Int) - 8 * (k : Int) = ((56 - 8 * k : Nat) : Int) := by omega
      have v7 : IntKind.i64.wrap ((56 - 8 * k : Nat) : Int) = ((56 - 8 * k : Nat) : Int) := IntWalk.i64_in _ (by omega)
      go_wp2
      go_region
      go_wp2
      clear v1 v2 v3 v4 v5 v6 v7 e1
      go_roundw
      case rel => exact ⟨k + 1, by omega, by go_num, ((b0.far (by simp <;> omega) _).far (by simp <;> omega) _).drew, ((b1.far (by simp <;> omega) _).far (by simp <;> omega) _).drew, by rw [Hnx.out]; exact ((b2.arr_set _ _).arr_set _ _).drew, ((hB.setCell (by simp <;> omega) _).setCell (by simp <;> omega) _).drew⟩
      case measure => simp [intOf]; omega
    · have ek : k = 8 := by omega
      subst ek
      have tk : ¬ ((8 : Nat) : Int) < 8 := by omega
      have Hfin := hd (show Gcm.bytes x = s by rw [Gcm.bytes, Hs.out])
      go_wp2_with (first | (refine wpl_load_arr rfl 87 _ rfl _ rfl 16 ty16 s Hl.out b2.cells_arr ?_) | (refine wpl_store_arr rfl 87 _ _ rfl (w.heap.size + 1) s rfl rfl 87 _ b1 16 ty16.size Hl.out (by rw [arr_size, List.length_replicate]) ?_))
      rw [Hfin.out]
      exact ret_arr rfl (w.heap.size + 1) rfl ty16 s Hl.out (b1.setRow _).cells_arr rfl ⟨rfl, below_setRow hB (by omega) _⟩
/-- Blocks that hold sixteen bytes each, and all that was there before. -/
structure Env (w : World) (bs : List (Nat × List UInt8)) (W : World) : Prop where
  at_ : ∀ p ∈ bs, Blk W p.1 87 (arr p.2)
  old : Below w.heap.size w W
theorem Env.next {w : World} {bs : List (Nat × List UInt8)} {W w' : World} (h : Env w bs W) (hb : Below W.heap.size W w') : Env w bs w' :=
  ⟨fun p hp => (h.at_ p hp).below hb (h.at_ p hp).lt, h.old.trans (hb.mono h.old.size)⟩
theorem Env.call {w : World} {bs : List (Nat × List UInt8)} {W : World} {P : Program} {f : FuncId} {args : Array Value} {v : Value} (h : Env w bs W) (hc : Calls P f args W fun e w' => e = .returned v ∧ Below W.heap.size W w') :
    Calls P f args W fun e w' => e = .returned v ∧ Env w bs w' := hc.mono fun _ _ ⟨he, hb⟩ => ⟨he, h.next hb⟩
theorem enter_of (args : Array Value) (w : World) : (callFunc 69 args).run Tryd.prog w = .ok (.enter 69 args) w := by kernel_rfl
theorem enter_times (args : Array Value) (w : World) : (callFunc 71 args).run Tryd.prog w = .ok (.enter 71 args) w := by kernel_rfl
theorem enter_bytes (args : Array Value) (w : World) : (callFunc 72 args).run Tryd.prog w = .ok (.enter 72 args) w := by kernel_rfl
end Go.Proofs.YthigbggacgiamaaDoor
