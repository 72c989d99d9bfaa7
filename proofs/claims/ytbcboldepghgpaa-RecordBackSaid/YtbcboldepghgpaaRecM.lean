/-
  The walk of record's Next, where less than a record is held.
-/
import Derived.Test.YtbcboldepghgpaaRecK
set_option linter.unusedVariables false
set_option linter.unusedSimpArgs false
set_option maxRecDepth 100000
namespace Go.Proofs.Ytbcboldepghgpaa
open Go.RowKit
set_option maxHeartbeats 8000000 in
set_option maxRecDepth 100000 in
theorem Rec.next_few (gr : Nat) (L : Value) (A : Option Addr) (k c : Nat) (skip : Int) (quiet : Bool) (w : World) (hr : Blk w gr 84 (Rec.rdc L (.slice A k c) skip quiet 0)) (hk : k < 5) :
    Calls Try.prog 24 #[.pointer (some ⟨gr, 0, none⟩)] w fun e w' => e = .returned (.tuple #[.int .u8 0, .slice none 0 0, .bool false, .int .i64 0]) ∧ Below w.heap.size w w' := by
  have c4 : w.cell? ⟨gr, 4, none⟩ = some (.int .i64 0) := hr.cell 4
  have c1 : w.cell? ⟨gr, 1, none⟩ = some (.slice A k c) := hr.cell 1
  have t5 : ¬ (5 : Int) ≤ (k : Int) := by omega
  go_enter Try.func24, Try.ntmps24
  go_wp2
  go_step3
  go_wp2
  go_step3
  go_wp2
  refine wp_loop_rounds 1 ?_
  rw [rounds_succ]
  go_wp2
  try rw [Exit.noGoto_ret]
  try simp only [Exit.inBlock, Exit.then]
  refine bodyPost_ret (results_tmp4 rfl _ _ _) rfl ?_
  exact ⟨rfl, Below.refl _ _⟩
set_option maxHeartbeats 8000000 in
set_option maxRecDepth 100000 in
theorem Rec.next_partT (gr g k c M : Nat) (L : Value) (skip : Int) (quiet : Bool) (h : List UInt8) (w : World) (hr : Blk w gr 84 (Rec.rdc L (.slice (some ⟨g, 0, none⟩) k c) skip quiet 0)) (ho : OwnB w 0 (.slice (some ⟨g, 0, none⟩) k c) h) (hk5 : 5 ≤ k) (hkM : k < 5 + M) (hM : M ≤ 16640)
    (b0 : nth h 0 = 23) (b3 : nth h 3 = UInt8.ofNat (M / 256)) (b4 : nth h 4 = UInt8.ofNat M) (hq : 16384 < M) :
    Calls Try.prog 24 #[.pointer (some ⟨gr, 0, none⟩)] w fun e w' => e = .returned (.tuple #[.int .u8 0, .slice none 0 0, .bool false, .int .i64 0]) ∧ Below w.heap.size w w' := by
  have Hb0 := hd b0
  have Hb3 := hd b3
  have Hb4 := hd b4
  have HMl := hd (show M ≤ 16640 ∧ 5 ≤ k ∧ k < 5 + M from ⟨hM, hk5, hkM⟩)
  obtain ⟨j, Hj⟩ : ∃ x, Hd (5 + M = x) := ⟨_, ⟨rfl⟩⟩
  have hqM := hd hq
  clear b0 b3 b4 hq
  have c4 : w.cell? ⟨gr, 4, none⟩ = some (.int .i64 0) := hr.cell 4
  have c1 : w.cell? ⟨gr, 1, none⟩ = some (.slice (some ⟨g, 0, none⟩) k c) := hr.cell 1
  have t5 : (5 : Int) ≤ (k : Int) := by omega
  go_enter Try.func24, Try.ntmps24
  go_wp2
  go_step3
  go_wp2
  go_step3
  go_wp2
  refine wp_loop_rounds 1 ?_
  rw [rounds_succ]
  go_wp2
  refine p_start (fun W => Blk W gr 84 (Rec.rdc L (.slice (some ⟨g, 0, none⟩) k c) skip quiet 0) ∧ OwnB W 0 (.slice (some ⟨g, 0, none⟩) k c) h ∧ Below w.heap.size w W) (by kernel_rfl) ⟨hr.drew, ho.drew, (Below.refl _ _).drew⟩ ?_
  clear c4 c1 hr ho
  refine p_take 0 (o := _) rfl (by kernel_rfl) (by kernel_rfl) (by kernel_rfl) (wanted_plain rfl) (.pointer (some ⟨gr, 0, none⟩)) (fun _ _ _ h => h) (fun W hW => run_move (by rfl) (by simp [Act.eval]) W) ?_
  simp only [Act.put, List.getElem_toArray, List.getElem_cons_succ, List.getElem_cons_zero, List.setIfInBounds_toArray, List.set_cons_zero, List.set_cons_succ]
  refine p_take 1 (o := _) rfl (by kernel_rfl) (by kernel_rfl) (by kernel_rfl) (wanted_plain rfl) (.pointer (some ⟨gr, 0, none⟩)) (fun _ _ _ h => h) (fun W hW => Rec.run_nilCheck' (by rfl) (by simp [Act.eval])) ?_
  simp only [Act.put, List.getElem_toArray, List.getElem_cons_succ, List.getElem_cons_zero, List.setIfInBounds_toArray, List.set_cons_zero, List.set_cons_succ]
  refine p_take 2 (o := _) rfl (by kernel_rfl) (by kernel_rfl) (by kernel_rfl) (wanted_plain rfl) (.pointer (some ⟨gr, 1, none⟩)) (fun _ _ _ h => h) (fun W hW => run_fieldAddr (by rfl) (by simp [Act.eval]) (Rec.fieldR gr 1 (by omega))) ?_
  simp only [Act.put, List.getElem_toArray, List.getElem_cons_succ, List.getElem_cons_zero, List.setIfInBounds_toArray, List.set_cons_zero, List.set_cons_succ]
  refine p_take 3 (o := _) rfl (by kernel_rfl) (by kernel_rfl) (by kernel_rfl) (wanted_plain rfl) (.slice (some ⟨g, 0, none⟩) k c) (fun _ _ _ h => h) (fun W hW => Rec.run_load_c Rec.na_bytes (by rfl) _ _ (by simp [Act.eval]) (hW.1.cell 1)) ?_
  simp only [Act.put, List.getElem_toArray, List.getElem_cons_succ, List.getElem_cons_zero, List.setIfInBounds_toArray, List.set_cons_zero, List.set_cons_succ]
  refine p_take 4 (o := _) rfl (by kernel_rfl) (by kernel_rfl) (by kernel_rfl) (wanted_plain rfl) (.pointer (some ⟨g, 0, none⟩)) (fun _ _ _ h => h) (fun W hW => Rec.run_indexSl (by rfl) Try.underlying24 u8_cell1 g k c 0 (by simp [Act.eval]) (by simp [Act.eval]) (by have := HMl.out; omega)) ?_
  simp only [Act.put, List.getElem_toArray, List.getElem_cons_succ, List.getElem_cons_zero, List.setIfInBounds_toArray, List.set_cons_zero, List.set_cons_succ]
  refine p_take 5 (o := _) rfl (by kernel_rfl) (by kernel_rfl) (by kernel_rfl) (wanted_plain rfl) (.int .u8 23) (fun _ _ _ h => h) (fun W hW => Rec.run_load_c Rec.na_u8 (by rfl) ⟨g, 0, none⟩ (.int .u8 23) (by simp [Act.eval]) (by have h1 := Rec.own_cell hW.2.1 0 (by have := HMl.out; omega); rw [Hb0.out] at h1; exact h1)) ?_
  simp only [Act.put, List.getElem_toArray, List.getElem_cons_succ, List.getElem_cons_zero, List.setIfInBounds_toArray, List.set_cons_zero, List.set_cons_succ]
  refine p_take 6 (o := _) rfl (by kernel_rfl) (by kernel_rfl) (by kernel_rfl) (wanted_plain rfl) (.pointer (some ⟨gr, 0, none⟩)) (fun _ _ _ h => h) (fun W hW => run_move (by rfl) (by simp [Act.eval]) W) ?_
  simp only [Act.put, List.getElem_toArray, List.getElem_cons_succ, List.getElem_cons_zero, List.setIfInBounds_toArray, List.set_cons_zero, List.set_cons_succ]
  refine p_take 7 (o := _) rfl (by kernel_rfl) (by kernel_rfl) (by kernel_rfl) (wanted_plain rfl) (.pointer (some ⟨gr, 0, none⟩)) (fun _ _ _ h => h) (fun W hW => Rec.run_nilCheck' (by rfl) (by simp [Act.eval])) ?_
  simp only [Act.put, List.getElem_toArray, List.getElem_cons_succ, List.getElem_cons_zero, List.setIfInBounds_toArray, List.set_cons_zero, List.set_cons_succ]
  refine p_take 8 (o := _) rfl (by kernel_rfl) (by kernel_rfl) (by kernel_rfl) (wanted_plain rfl) (.pointer (some ⟨gr, 1, none⟩)) (fun _ _ _ h => h) (fun W hW => run_fieldAddr (by rfl) (by simp [Act.eval]) (Rec.fieldR gr 1 (by omega))) ?_
  simp only [Act.put, List.getElem_toArray, List.getElem_cons_succ, List.getElem_cons_zero, List.setIfInBounds_toArray, List.set_cons_zero, List.set_cons_succ]
  refine p_take 9 (o := _) rfl (by kernel_rfl) (by kernel_rfl) (by kernel_rfl) (wanted_plain rfl) (.slice (some ⟨g, 0, none⟩) k c) (fun _ _ _ h => h) (fun W hW => Rec.run_load_c Rec.na_bytes (by rfl) _ _ (by simp [Act.eval]) (hW.1.cell 1)) ?_
  simp only [Act.put, List.getElem_toArray, List.getElem_cons_succ, List.getElem_cons_zero, List.setIfInBounds_toArray, List.set_cons_zero, List.set_cons_succ]
  refine p_take 10 (o := _) rfl (by kernel_rfl) (by kernel_rfl) (by kernel_rfl) (wanted_plain rfl) (.pointer (some ⟨g, 3, none⟩)) (fun _ _ _ h => h) (fun W hW => Rec.run_indexSl (by rfl) Try.underlying24 u8_cell1 g k c 3 (by simp [Act.eval]) (by simp [Act.eval]) (by have := HMl.out; omega)) ?_
  simp only [Act.put, List.getElem_toArray, List.getElem_cons_succ, List.getElem_cons_zero, List.setIfInBounds_toArray, List.set_cons_zero, List.set_cons_succ]
  refine p_take 11 (o := _) rfl (by kernel_rfl) (by kernel_rfl) (by kernel_rfl) (wanted_plain rfl) (.int .u8 ((n8 (UInt8.ofNat (M / 256)) : Nat) : Int)) (fun _ _ _ h => h) (fun W hW => Rec.run_load_c Rec.na_u8 (by rfl) ⟨g, 3, none⟩ (.int .u8 ((n8 (UInt8.ofNat (M / 256)) : Nat) : Int)) (by simp [Act.eval]) (by have h1 := Rec.own_cell hW.2.1 3 (by have := HMl.out; omega); rw [Hb3.out] at h1; exact h1)) ?_
  simp only [Act.put, List.getElem_toArray, List.getElem_cons_succ, List.getElem_cons_zero, List.setIfInBounds_toArray, List.set_cons_zero, List.set_cons_succ]
  refine p_take 12 (o := _) rfl (by kernel_rfl) (by kernel_rfl) (by kernel_rfl) (wanted_plain rfl) (.int .i64 ((M / 256 : Nat) : Int)) (fun _ _ _ h => h) (fun W hW => Rec.run_u8intM (by rfl) (UInt8.ofNat (M / 256)) (M / 256) (Rec.n8_small _ (by have := HMl.out; omega)) (by simp [Act.eval])) ?_
  simp only [Act.put, List.getElem_toArray, List.getElem_cons_succ, List.getElem_cons_zero, List.setIfInBounds_toArray, List.set_cons_zero, List.set_cons_succ]
  refine p_take 13 (o := _) rfl (by kernel_rfl) (by kernel_rfl) (by kernel_rfl) (wanted_plain rfl) (.int .i64 ((256 * (M / 256) : Nat) : Int)) (fun _ _ _ h => h) (fun W hW => Rec.run_shl8 (by rfl) (M / 256) (by have := HMl.out; omega) (by simp [Act.eval]) (by simp [Act.eval])) ?_
  simp only [Act.put, List.getElem_toArray, List.getElem_cons_succ, List.getElem_cons_zero, List.setIfInBounds_toArray, List.set_cons_zero, List.set_cons_succ]
  refine p_take 14 (o := _) rfl (by kernel_rfl) (by kernel_rfl) (by kernel_rfl) (wanted_plain rfl) (.pointer (some ⟨gr, 0, none⟩)) (fun _ _ _ h => h) (fun W hW => run_move (by rfl) (by simp [Act.eval]) W) ?_
  simp only [Act.put, List.getElem_toArray, List.getElem_cons_succ, List.getElem_cons_zero, List.setIfInBounds_toArray, List.set_cons_zero, List.set_cons_succ]
  refine p_take 15 (o := _) rfl (by kernel_rfl) (by kernel_rfl) (by kernel_rfl) (wanted_plain rfl) (.pointer (some ⟨gr, 0, none⟩)) (fun _ _ _ h => h) (fun W hW => Rec.run_nilCheck' (by rfl) (by simp [Act.eval])) ?_
  simp only [Act.put, List.getElem_toArray, List.getElem_cons_succ, List.getElem_cons_zero, List.setIfInBounds_toArray, List.set_cons_zero, List.set_cons_succ]
  refine p_take 16 (o := _) rfl (by kernel_rfl) (by kernel_rfl) (by kernel_rfl) (wanted_plain rfl) (.pointer (some ⟨gr, 1, none⟩)) (fun _ _ _ h => h) (fun W hW => run_fieldAddr (by rfl) (by simp [Act.eval]) (Rec.fieldR gr 1 (by omega))) ?_
  simp only [Act.put, List.getElem_toArray, List.getElem_cons_succ, List.getElem_cons_zero, List.setIfInBounds_toArray, List.set_cons_zero, List.set_cons_succ]
  refine p_take 17 (o := _) rfl (by kernel_rfl) (by kernel_rfl) (by kernel_rfl) (wanted_plain rfl) (.slice (some ⟨g, 0, none⟩) k c) (fun _ _ _ h => h) (fun W hW => Rec.run_load_c Rec.na_bytes (by rfl) _ _ (by simp [Act.eval]) (hW.1.cell 1)) ?_
  simp only [Act.put, List.getElem_toArray, List.getElem_cons_succ, List.getElem_cons_zero, List.setIfInBounds_toArray, List.set_cons_zero, List.set_cons_succ]
  refine p_take 18 (o := _) rfl (by kernel_rfl) (by kernel_rfl) (by kernel_rfl) (wanted_plain rfl) (.pointer (some ⟨g, 4, none⟩)) (fun _ _ _ h => h) (fun W hW => Rec.run_indexSl (by rfl) Try.underlying24 u8_cell1 g k c 4 (by simp [Act.eval]) (by simp [Act.eval]) (by have := HMl.out; omega)) ?_
  simp only [Act.put, List.getElem_toArray, List.getElem_cons_succ, List.getElem_cons_zero, List.setIfInBounds_toArray, List.set_cons_zero, List.set_cons_succ]
  refine p_take 19 (o := _) rfl (by kernel_rfl) (by kernel_rfl) (by kernel_rfl) (wanted_plain rfl) (.int .u8 ((n8 (UInt8.ofNat M) : Nat) : Int)) (fun _ _ _ h => h) (fun W hW => Rec.run_load_c Rec.na_u8 (by rfl) ⟨g, 4, none⟩ (.int .u8 ((n8 (UInt8.ofNat M) : Nat) : Int)) (by simp [Act.eval]) (by have h1 := Rec.own_cell hW.2.1 4 (by have := HMl.out; omega); rw [Hb4.out] at h1; exact h1)) ?_
  simp only [Act.put, List.getElem_toArray, List.getElem_cons_succ, List.getElem_cons_zero, List.setIfInBounds_toArray, List.set_cons_zero, List.set_cons_succ]
  refine p_take 20 (o := _) rfl (by kernel_rfl) (by kernel_rfl) (by kernel_rfl) (wanted_plain rfl) (.int .i64 ((M % 256 : Nat) : Int)) (fun _ _ _ h => h) (fun W hW => Rec.run_u8intM (by rfl) (UInt8.ofNat M) (M % 256) UInt8.toNat_ofNat' (by simp [Act.eval])) ?_
  simp only [Act.put, List.getElem_toArray, List.getElem_cons_succ, List.getElem_cons_zero, List.setIfInBounds_toArray, List.set_cons_zero, List.set_cons_succ]
  refine p_take 21 (o := _) rfl (by kernel_rfl) (by kernel_rfl) (by kernel_rfl) (wanted_plain rfl) (.int .i64 (M : Int)) (fun _ _ _ h => h) (fun W hW => Rec.run_orI (by rfl) (M / 256) (M % 256) M (by have := HMl.out; omega) (by omega) (by omega) (by simp [Act.eval]) (by simp [Act.eval])) ?_
  simp only [Act.put, List.getElem_toArray, List.getElem_cons_succ, List.getElem_cons_zero, List.setIfInBounds_toArray, List.set_cons_zero, List.set_cons_succ]
  refine p_take 22 (o := _) rfl (by kernel_rfl) (by kernel_rfl) (by kernel_rfl) (wanted_plain rfl) (.int .u8 23) (fun _ _ _ h => h) (fun W hW => run_assign (by rfl) (by simp [Act.eval]) W) ?_
  simp only [Act.put, List.getElem_toArray, List.getElem_cons_succ, List.getElem_cons_zero, List.setIfInBounds_toArray, List.set_cons_zero, List.set_cons_succ]
  refine p_take 23 (o := _) rfl (by kernel_rfl) (by kernel_rfl) (by kernel_rfl) (wanted_plain rfl) (.int .i64 (M : Int)) (fun _ _ _ h => h) (fun W hW => run_assign (by rfl) (by simp [Act.eval]) W) ?_
  simp only [Act.put, List.getElem_toArray, List.getElem_cons_succ, List.getElem_cons_zero, List.setIfInBounds_toArray, List.set_cons_zero, List.set_cons_succ]
  refine (show ∀ z0, wpAnyV _ _ _ _ _ _ z0 _ _ _ from fun z0 => p_done (by kernel_rfl) (fun W1 H1 => ?_) z0) _
  have c1 : W1.cell? ⟨gr, 1, none⟩ = some (.slice (some ⟨g, 0, none⟩) k c) := H1.1.cell 1
  have t6 : ¬ (16640 : Int) < (M : Int) := by have := HMl.out; omega
  have t7 : (16384 : Int) < (M : Int) := by have := hqM.out; omega
  have e8 : (5 : Int) + (M : Int) = (j : Int) := by have := Hj.out; omega
  have w8 : IntKind.i64.wrap (j : Int) = (j : Int) := IntWalk.i64_in _ (by have := Hj.out; have := HMl.out; omega)
  have t9 : (k : Int) < (j : Int) := by have := HMl.out; have := Hj.out; omega
  go_wp2
  try rw [Exit.noGoto_ret]
  try simp only [Exit.inBlock, Exit.then]
  refine bodyPost_ret (results_tmp4 rfl _ _ _) rfl ?_
  exact ⟨rfl, H1.2.2⟩
set_option maxHeartbeats 8000000 in
set_option maxRecDepth 100000 in
theorem Rec.next_partF (gr g k c M : Nat) (L : Value) (skip : Int) (quiet : Bool) (h : List UInt8) (w : World) (hr : Blk w gr 84 (Rec.rdc L (.slice (some ⟨g, 0, none⟩) k c) skip quiet 0)) (ho : OwnB w 0 (.slice (some ⟨g, 0, none⟩) k c) h) (hk5 : 5 ≤ k) (hkM : k < 5 + M) (hM : M ≤ 16640)
    (b0 : nth h 0 = 23) (b3 : nth h 3 = UInt8.ofNat (M / 256)) (b4 : nth h 4 = UInt8.ofNat M) (hq : ¬ 16384 < M) :
    Calls Try.prog 24 #[.pointer (some ⟨gr, 0, none⟩)] w fun e w' => e = .returned (.tuple #[.int .u8 0, .slice none 0 0, .bool false, .int .i64 0]) ∧ Below w.heap.size w w' := by
  have Hb0 := hd b0
  have Hb3 := hd b3
  have Hb4 := hd b4
  have HMl := hd (show M ≤ 16640 ∧ 5 ≤ k ∧ k < 5 + M from ⟨hM, hk5, hkM⟩)
  obtain ⟨j, Hj⟩ : ∃ x, Hd (5 + M = x) := ⟨_, ⟨rfl⟩⟩
  have hqM := hd hq
  clear b0 b3 b4 hq
  have c4 : w.cell? ⟨gr, 4, none⟩ = some (.int .i64 0) := hr.cell 4
  have c1 : w.cell? ⟨gr, 1, none⟩ = some (.slice (some ⟨g, 0, none⟩) k c) := hr.cell 1
  have t5 : (5 : Int) ≤ (k : Int) := by omega
  go_enter Try.func24, Try.ntmps24
  go_wp2
  go_step3
  go_wp2
  go_step3
  go_wp2
  refine wp_loop_rounds 1 ?_
  rw [rounds_succ]
  go_wp2
  refine p_start (fun W => Blk W gr 84 (Rec.rdc L (.slice (some ⟨g, 0, none⟩) k c) skip quiet 0) ∧ OwnB W 0 (.slice (some ⟨g, 0, none⟩) k c) h ∧ Below w.heap.size w W) (by kernel_rfl) ⟨hr.drew, ho.drew, (Below.refl _ _).drew⟩ ?_
  clear c4 c1 hr ho
  refine p_take 0 (o := _) rfl (by kernel_rfl) (by kernel_rfl) (by kernel_rfl) (wanted_plain rfl) (.pointer (some ⟨gr, 0, none⟩)) (fun _ _ _ h => h) (fun W hW => run_move (by rfl) (by simp [Act.eval]) W) ?_
  simp only [Act.put, List.getElem_toArray, List.getElem_cons_succ, List.getElem_cons_zero, List.setIfInBounds_toArray, List.set_cons_zero, List.set_cons_succ]
  refine p_take 1 (o := _) rfl (by kernel_rfl) (by kernel_rfl) (by kernel_rfl) (wanted_plain rfl) (.pointer (some ⟨gr, 0, none⟩)) (fun _ _ _ h => h) (fun W hW => Rec.run_nilCheck' (by rfl) (by simp [Act.eval])) ?_
  simp only [Act.put, List.getElem_toArray, List.getElem_cons_succ, List.getElem_cons_zero, List.setIfInBounds_toArray, List.set_cons_zero, List.set_cons_succ]
  refine p_take 2 (o := _) rfl (by kernel_rfl) (by kernel_rfl) (by kernel_rfl) (wanted_plain rfl) (.pointer (some ⟨gr, 1, none⟩)) (fun _ _ _ h => h) (fun W hW => run_fieldAddr (by rfl) (by simp [Act.eval]) (Rec.fieldR gr 1 (by omega))) ?_
  simp only [Act.put, List.getElem_toArray, List.getElem_cons_succ, List.getElem_cons_zero, List.setIfInBounds_toArray, List.set_cons_zero, List.set_cons_succ]
  refine p_take 3 (o := _) rfl (by kernel_rfl) (by kernel_rfl) (by kernel_rfl) (wanted_plain rfl) (.slice (some ⟨g, 0, none⟩) k c) (fun _ _ _ h => h) (fun W hW => Rec.run_load_c Rec.na_bytes (by rfl) _ _ (by simp [Act.eval]) (hW.1.cell 1)) ?_
  simp only [Act.put, List.getElem_toArray, List.getElem_cons_succ, List.getElem_cons_zero, List.setIfInBounds_toArray, List.set_cons_zero, List.set_cons_succ]
  refine p_take 4 (o := _) rfl (by kernel_rfl) (by kernel_rfl) (by kernel_rfl) (wanted_plain rfl) (.pointer (some ⟨g, 0, none⟩)) (fun _ _ _ h => h) (fun W hW => Rec.run_indexSl (by rfl) Try.underlying24 u8_cell1 g k c 0 (by simp [Act.eval]) (by simp [Act.eval]) (by have := HMl.out; omega)) ?_
  simp only [Act.put, List.getElem_toArray, List.getElem_cons_succ, List.getElem_cons_zero, List.setIfInBounds_toArray, List.set_cons_zero, List.set_cons_succ]
  refine p_take 5 (o := _) rfl (by kernel_rfl) (by kernel_rfl) (by kernel_rfl) (wanted_plain rfl) (.int .u8 23) (fun _ _ _ h => h) (fun W hW => Rec.run_load_c Rec.na_u8 (by rfl) ⟨g, 0, none⟩ (.int .u8 23) (by simp [Act.eval]) (by have h1 := Rec.own_cell hW.2.1 0 (by have := HMl.out; omega); rw [Hb0.out] at h1; exact h1)) ?_
  simp only [Act.put, List.getElem_toArray, List.getElem_cons_succ, List.getElem_cons_zero, List.setIfInBounds_toArray, List.set_cons_zero, List.set_cons_succ]
  refine p_take 6 (o := _) rfl (by kernel_rfl) (by kernel_rfl) (by kernel_rfl) (wanted_plain rfl) (.pointer (some ⟨gr, 0, none⟩)) (fun _ _ _ h => h) (fun W hW => run_move (by rfl) (by simp [Act.eval]) W) ?_
  simp only [Act.put, List.getElem_toArray, List.getElem_cons_succ, List.getElem_cons_zero, List.setIfInBounds_toArray, List.set_cons_zero, List.set_cons_succ]
  refine p_take 7 (o := _) rfl (by kernel_rfl) (by kernel_rfl) (by kernel_rfl) (wanted_plain rfl) (.pointer (some ⟨gr, 0, none⟩)) (fun _ _ _ h => h) (fun W hW => Rec.run_nilCheck' (by rfl) (by simp [Act.eval])) ?_
  simp only [Act.put, List.getElem_toArray, List.getElem_cons_succ, List.getElem_cons_zero, List.setIfInBounds_toArray, List.set_cons_zero, List.set_cons_succ]
  refine p_take 8 (o := _) rfl (by kernel_rfl) (by kernel_rfl) (by kernel_rfl) (wanted_plain rfl) (.pointer (some ⟨gr, 1, none⟩)) (fun _ _ _ h => h) (fun W hW => run_fieldAddr (by rfl) (by simp [Act.eval]) (Rec.fieldR gr 1 (by omega))) ?_
  simp only [Act.put, List.getElem_toArray, List.getElem_cons_succ, List.getElem_cons_zero, List.setIfInBounds_toArray, List.set_cons_zero, List.set_cons_succ]
  refine p_take 9 (o := _) rfl (by kernel_rfl) (by kernel_rfl) (by kernel_rfl) (wanted_plain rfl) (.slice (some ⟨g, 0, none⟩) k c) (fun _ _ _ h => h) (fun W hW => Rec.run_load_c Rec.na_bytes (by rfl) _ _ (by simp [Act.eval]) (hW.1.cell 1)) ?_
  simp only [Act.put, List.getElem_toArray, List.getElem_cons_succ, List.getElem_cons_zero, List.setIfInBounds_toArray, List.set_cons_zero, List.set_cons_succ]
  refine p_take 10 (o := _) rfl (by kernel_rfl) (by kernel_rfl) (by kernel_rfl) (wanted_plain rfl) (.pointer (some ⟨g, 3, none⟩)) (fun _ _ _ h => h) (fun W hW => Rec.run_indexSl (by rfl) Try.underlying24 u8_cell1 g k c 3 (by simp [Act.eval]) (by simp [Act.eval]) (by have := HMl.out; omega)) ?_
  simp only [Act.put, List.getElem_toArray, List.getElem_cons_succ, List.getElem_cons_zero, List.setIfInBounds_toArray, List.set_cons_zero, List.set_cons_succ]
  refine p_take 11 (o := _) rfl (by kernel_rfl) (by kernel_rfl) (by kernel_rfl) (wanted_plain rfl) (.int .u8 ((n8 (UInt8.ofNat (M / 256)) : Nat) : Int)) (fun _ _ _ h => h) (fun W hW => Rec.run_load_c Rec.na_u8 (by rfl) ⟨g, 3, none⟩ (.int .u8 ((n8 (UInt8.ofNat (M / 256)) : Nat) : Int)) (by simp [Act.eval]) (by have h1 := Rec.own_cell hW.2.1 3 (by have := HMl.out; omega); rw [Hb3.out] at h1; exact h1)) ?_
  simp only [Act.put, List.getElem_toArray, List.getElem_cons_succ, List.getElem_cons_zero, List.setIfInBounds_toArray, List.set_cons_zero, List.set_cons_succ]
  refine p_take 12 (o := _) rfl (by kernel_rfl) (by kernel_rfl) (by kernel_rfl) (wanted_plain rfl) (.int .i64 ((M / 256 : Nat) : Int)) (fun _ _ _ h => h) (fun W hW => Rec.run_u8intM (by rfl) (UInt8.ofNat (M / 256)) (M / 256) (Rec.n8_small _ (by have := HMl.out; omega)) (by simp [Act.eval])) ?_
  simp only [Act.put, List.getElem_toArray, List.getElem_cons_succ, List.getElem_cons_zero, List.setIfInBounds_toArray, List.set_cons_zero, List.set_cons_succ]
  refine p_take 13 (o := _) rfl (by kernel_rfl) (by kernel_rfl) (by kernel_rfl) (wanted_plain rfl) (.int .i64 ((256 * (M / 256) : Nat) : Int)) (fun _ _ _ h => h) (fun W hW => Rec.run_shl8 (by rfl) (M / 256) (by have := HMl.out; omega) (by simp [Act.eval]) (by simp [Act.eval])) ?_
  simp only [Act.put, List.getElem_toArray, List.getElem_cons_succ, List.getElem_cons_zero, List.setIfInBounds_toArray, List.set_cons_zero, List.set_cons_succ]
  refine p_take 14 (o := _) rfl (by kernel_rfl) (by kernel_rfl) (by kernel_rfl) (wanted_plain rfl) (.pointer (some ⟨gr, 0, none⟩)) (fun _ _ _ h => h) (fun W hW => run_move (by rfl) (by simp [Act.eval]) W) ?_
  simp only [Act.put, List.getElem_toArray, List.getElem_cons_succ, List.getElem_cons_zero, List.setIfInBounds_toArray, List.set_cons_zero, List.set_cons_succ]
  refine p_take 15 (o := _) rfl (by kernel_rfl) (by kernel_rfl) (by kernel_rfl) (wanted_plain rfl) (.pointer (some ⟨gr, 0, none⟩)) (fun _ _ _ h => h) (fun W hW => Rec.run_nilCheck' (by rfl) (by simp [Act.eval])) ?_
  simp only [Act.put, List.getElem_toArray, List.getElem_cons_succ, List.getElem_cons_zero, List.setIfInBounds_toArray, List.set_cons_zero, List.set_cons_succ]
  refine p_take 16 (o := _) rfl (by kernel_rfl) (by kernel_rfl) (by kernel_rfl) (wanted_plain rfl) (.pointer (some ⟨gr, 1, none⟩)) (fun _ _ _ h => h) (fun W hW => run_fieldAddr (by rfl) (by simp [Act.eval]) (Rec.fieldR gr 1 (by omega))) ?_
  simp only [Act.put, List.getElem_toArray, List.getElem_cons_succ, List.getElem_cons_zero, List.setIfInBounds_toArray, List.set_cons_zero, List.set_cons_succ]
  refine p_take 17 (o := _) rfl (by kernel_rfl) (by kernel_rfl) (by kernel_rfl) (wanted_plain rfl) (.slice (some ⟨g, 0, none⟩) k c) (fun _ _ _ h => h) (fun W hW => Rec.run_load_c Rec.na_bytes (by rfl) _ _ (by simp [Act.eval]) (hW.1.cell 1)) ?_
  simp only [Act.put, List.getElem_toArray, List.getElem_cons_succ, List.getElem_cons_zero, List.setIfInBounds_toArray, List.set_cons_zero, List.set_cons_succ]
  refine p_take 18 (o := _) rfl (by kernel_rfl) (by kernel_rfl) (by kernel_rfl) (wanted_plain rfl) (.pointer (some ⟨g, 4, none⟩)) (fun _ _ _ h => h) (fun W hW => Rec.run_indexSl (by rfl) Try.underlying24 u8_cell1 g k c 4 (by simp [Act.eval]) (by simp [Act.eval]) (by have := HMl.out; omega)) ?_
  simp only [Act.put, List.getElem_toArray, List.getElem_cons_succ, List.getElem_cons_zero, List.setIfInBounds_toArray, List.set_cons_zero, List.set_cons_succ]
  refine p_take 19 (o := _) rfl (by kernel_rfl) (by kernel_rfl) (by kernel_rfl) (wanted_plain rfl) (.int .u8 ((n8 (UInt8.ofNat M) : Nat) : Int)) (fun _ _ _ h => h) (fun W hW => Rec.run_load_c Rec.na_u8 (by rfl) ⟨g, 4, none⟩ (.int .u8 ((n8 (UInt8.ofNat M) : Nat) : Int)) (by simp [Act.eval]) (by have h1 := Rec.own_cell hW.2.1 4 (by have := HMl.out; omega); rw [Hb4.out] at h1; exact h1)) ?_
  simp only [Act.put, List.getElem_toArray, List.getElem_cons_succ, List.getElem_cons_zero, List.setIfInBounds_toArray, List.set_cons_zero, List.set_cons_succ]
  refine p_take 20 (o := _) rfl (by kernel_rfl) (by kernel_rfl) (by kernel_rfl) (wanted_plain rfl) (.int .i64 ((M % 256 : Nat) : Int)) (fun _ _ _ h => h) (fun W hW => Rec.run_u8intM (by rfl) (UInt8.ofNat M) (M % 256) UInt8.toNat_ofNat' (by simp [Act.eval])) ?_
  simp only [Act.put, List.getElem_toArray, List.getElem_cons_succ, List.getElem_cons_zero, List.setIfInBounds_toArray, List.set_cons_zero, List.set_cons_succ]
  refine p_take 21 (o := _) rfl (by kernel_rfl) (by kernel_rfl) (by kernel_rfl) (wanted_plain rfl) (.int .i64 (M : Int)) (fun _ _ _ h => h) (fun W hW => Rec.run_orI (by rfl) (M / 256) (M % 256) M (by have := HMl.out; omega) (by omega) (by omega) (by simp [Act.eval]) (by simp [Act.eval])) ?_
  simp only [Act.put, List.getElem_toArray, List.getElem_cons_succ, List.getElem_cons_zero, List.setIfInBounds_toArray, List.set_cons_zero, List.set_cons_succ]
  refine p_take 22 (o := _) rfl (by kernel_rfl) (by kernel_rfl) (by kernel_rfl) (wanted_plain rfl) (.int .u8 23) (fun _ _ _ h => h) (fun W hW => run_assign (by rfl) (by simp [Act.eval]) W) ?_
  simp only [Act.put, List.getElem_toArray, List.getElem_cons_succ, List.getElem_cons_zero, List.setIfInBounds_toArray, List.set_cons_zero, List.set_cons_succ]
  refine p_take 23 (o := _) rfl (by kernel_rfl) (by kernel_rfl) (by kernel_rfl) (wanted_plain rfl) (.int .i64 (M : Int)) (fun _ _ _ h => h) (fun W hW => run_assign (by rfl) (by simp [Act.eval]) W) ?_
  simp only [Act.put, List.getElem_toArray, List.getElem_cons_succ, List.getElem_cons_zero, List.setIfInBounds_toArray, List.set_cons_zero, List.set_cons_succ]
  refine (show ∀ z0, wpAnyV _ _ _ _ _ _ z0 _ _ _ from fun z0 => p_done (by kernel_rfl) (fun W1 H1 => ?_) z0) _
  have c1 : W1.cell? ⟨gr, 1, none⟩ = some (.slice (some ⟨g, 0, none⟩) k c) := H1.1.cell 1
  have t6 : ¬ (16640 : Int) < (M : Int) := by have := HMl.out; omega
  have t7 : ¬ (16384 : Int) < (M : Int) := by have := hqM.out; omega
  have e8 : (5 : Int) + (M : Int) = (j : Int) := by have := Hj.out; omega
  have w8 : IntKind.i64.wrap (j : Int) = (j : Int) := IntWalk.i64_in _ (by have := Hj.out; have := HMl.out; omega)
  have t9 : (k : Int) < (j : Int) := by have := HMl.out; have := Hj.out; omega
  go_wp2
  try rw [Exit.noGoto_ret]
  try simp only [Exit.inBlock, Exit.then]
  refine bodyPost_ret (results_tmp4 rfl _ _ _) rfl ?_
  exact ⟨rfl, H1.2.2⟩
theorem Rec.next_part (gr g k c M : Nat) (L : Value) (skip : Int) (quiet : Bool) (h : List UInt8) (w : World) (hr : Blk w gr 84 (Rec.rdc L (.slice (some ⟨g, 0, none⟩) k c) skip quiet 0)) (ho : OwnB w 0 (.slice (some ⟨g, 0, none⟩) k c) h) (hk5 : 5 ≤ k) (hkM : k < 5 + M) (hM : M ≤ 16640)
    (b0 : nth h 0 = 23) (b3 : nth h 3 = UInt8.ofNat (M / 256)) (b4 : nth h 4 = UInt8.ofNat M) :
    Calls Try.prog 24 #[.pointer (some ⟨gr, 0, none⟩)] w fun e w' => e = .returned (.tuple #[.int .u8 0, .slice none 0 0, .bool false, .int .i64 0]) ∧ Below w.heap.size w w' := by
  by_cases hq : 16384 < M
  · exact Rec.next_partT gr g k c M L skip quiet h w hr ho hk5 hkM hM b0 b3 b4 hq
  · exact Rec.next_partF gr g k c M L skip quiet h w hr ho hk5 hkM hM b0 b3 b4 hq
end Go.Proofs.Ytbcboldepghgpaa
