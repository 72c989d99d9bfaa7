/-
  The walks of a word turned, and mixed.
-/
import Derived.Test.YtbcboldepghgpaaGreatDoorShaSpec
import Derived.Test.YtbcboldepghgpaaGreatDoorHeldU
import Derived.WalkSpells
import Derived.BigQuiet
import Derived.Deep.QuietTactic
set_option linter.unusedVariables false
set_option linter.unusedSimpArgs false
set_option maxRecDepth 100000
namespace Go.Proofs.YtbcboldepghgpaaGreatDoor
open Go.RowKit
/-- Three numbers that an array holds. -/
def three (a b c : Nat) : Array Value := #[.int .i64 (a : Int), .int .i64 (b : Int), .int .i64 (c : Int)]
theorem run_load_i64 (ad : Addr) (v : Value) (w : World) (h : w.cell? ad = some v) : (loadVar 3 ad).run Tryz.prog w = .ok v w := by
  simp [loadVar, go_sem, h]
theorem index3 (z i : Nat) (hi : i < 3) (w : World) : (Instr.indexAt 90 (.pointer (some ⟨z, 0, none⟩)) (.int .i64 (i : Int))).run Tryz.prog w = .ok (.pointer (some ⟨z, i, none⟩)) w := by
  rcases (show i = 0 ∨ i = 1 ∨ i = 2 by omega) with rfl | rfl | rfl <;> kernel_rfl
theorem run_indexAddr {P : Program} {w : World} {o : Oper} {ρ : Operand → Value} {t : TypeId} {x y : Operand} {v u r : Value} (ho : o.op = .indexAddr t x y) (hx : ρ x = v) (hy : ρ y = u) (h : ∀ w, (Instr.indexAt t v u).run P w = .ok r w) : (execOp ρ o).run P w = .ok (.value r) w := by
  unfold execOp
  simp only [ho, hx, hy, Sem.run_bind, h, Result.andThen_ok]
  rfl
/-- A block that holds three numbers, and all that was there before. -/
structure Mx (w : World) (cs : Array Value) (W : World) : Prop where
  at_ : Blk W w.heap.size 90 cs
  old : Below w.heap.size w W
theorem Mx.next {w : World} {cs : Array Value} {W w' : World} (h : Mx w cs W) (hb : Below W.heap.size W w') : Mx w cs w' := ⟨h.at_.below hb h.at_.lt, h.old.trans (hb.mono h.old.size)⟩
theorem Mx.call {w : World} {cs : Array Value} {W : World} {P : Program} {f : FuncId} {args : Array Value} {v : Value} (h : Mx w cs W) (hc : Calls P f args W fun e w' => e = .returned v ∧ Below W.heap.size W w') :
    Calls P f args W fun e w' => e = .returned v ∧ Mx w cs w' := hc.mono fun _ _ ⟨he, hb⟩ => ⟨he, h.next hb⟩
theorem enter_turned32 (args : Array Value) (w : World) : (callFunc 88 args).run Tryz.prog w = .ok (.enter 88 args) w := by kernel_rfl
theorem run_xor32 {P : Program} {o : Oper} {ρ : Operand → Value} {x y : Operand} {t rt : TypeId} (ho : o.op = .binOp .xor t x y rt) (a b : UInt32) (hx : ρ x = .int .u32 ((n32 a : Nat) : Int)) (hy : ρ y = .int .u32 ((n32 b : Nat) : Int)) (w : World) :
    (execOp ρ o).run P w = .ok (.value (.int .u32 ((n32 (a ^^^ b) : Nat) : Int))) w := by
  unfold execOp
  simp only [ho, hx, hy]
  simp [go_sem]
set_option maxHeartbeats 2000000 in
set_option maxRecDepth 100000 in
theorem turned32_any (x : UInt32) (n : Nat) (hn : n ≤ 32) (w : World) :
    Calls Tryz.prog 88 #[.int .u32 ((n32 x : Nat) : Int), .int .i64 (n : Int), .int .i64 32] w fun e w' => e = .returned (.int .u32 ((n32 (Sha32.rot x n) : Nat) : Int)) ∧ Below w.heap.size w w' := by
  have e1 : (32 : Int) - (n : Int) = ((32 - n : Nat) : Int) := by omega
  obtain ⟨m, Hm⟩ : ∃ m, Hd (32 - n = m) := ⟨_, ⟨rfl⟩⟩
  rw [Hm.out] at e1
  have v1 : IntKind.i64.wrap (m : Int) = (m : Int) := IntWalk.i64_in _ (by have := Hm.out; omega)
  have v2 : (0 : Int) ≤ (n : Int) := by omega
  have v3 : (0 : Int) ≤ (m : Int) := by omega
  have Hr := hd (show Sha32.rot x n = shr32 x n ||| shl32 x m by rw [Sha32.rot, Hm.out])
  go_enter Tryz.func88, Tryz.ntmps88
  go_wp2
  go_quiet (fail)
  go_wp2
  go_ret
  exact ⟨by rw [Hr.out]; rfl, below_drewN (Below.refl _ _) _⟩
set_option maxHeartbeats 4000000 in
set_option maxRecDepth 100000 in
theorem mixed32_any (x : UInt32) (a b c : Nat) (ha : a ≤ 32) (hb : b ≤ 32) (hc : c ≤ 32) (sh : Bool) (w : World) :
    Calls Tryz.prog 80 #[.int .u32 ((n32 x : Nat) : Int), .int .i64 32, .agg (three a b c), .bool sh] w fun e w' => e = .returned (.int .u32 ((n32 (if sh then Sha32.sig a b c x else Sha32.big a b c x) : Nat) : Int)) ∧ Below w.heap.size w w' := by
  have hS0 : Mx w (three a b c) (w.alloc (.cells (three a b c) 90)) := ⟨Blk.nu rfl, (Below.refl _ _).alloc (Nat.le_refl _) _⟩
  go_enter Tryz.func80, Tryz.ntmps80
  go_wp2
  refine u_start (S := fun _ => Mx w (three a b c)) 99 (by kernel_rfl) (hS0.next (Below.refl _ _).drew) ?_
  refine u_take 0 rfl (o := _) rfl (by kernel_rfl) (by kernel_rfl) (by kernel_rfl) (.int .u32 ((n32 x : Nat) : Int)) (fun _ _ _ h => h) (g_value rfl (wanted_plain rfl) (fun f W hW => run_move (by rfl) (by simp [Act.eval]) W)) ?_
  simp only [Act.put, List.getElem_toArray, List.getElem_cons_succ, List.getElem_cons_zero, List.setIfInBounds_toArray, List.set_cons_zero, List.set_cons_succ]
  refine u_take 1 rfl (o := _) rfl (by kernel_rfl) (by kernel_rfl) (by kernel_rfl) (.pointer (some ⟨w.heap.size, 0, none⟩)) (fun _ _ _ h => h) (g_value rfl (wanted_plain rfl) (fun f W hW => run_indexAddr (by rfl) (by simp [Act.eval]) (by simp [Act.eval]) (index3 w.heap.size 0 (by omega)))) ?_
  simp only [Act.put, List.getElem_toArray, List.getElem_cons_succ, List.getElem_cons_zero, List.setIfInBounds_toArray, List.set_cons_zero, List.set_cons_succ]
  refine u_take 2 rfl (o := _) rfl (by kernel_rfl) (by kernel_rfl) (by kernel_rfl) (.int .i64 (a : Int)) (fun _ _ _ h => h) (g_value rfl (wanted_plain rfl) (fun f W hW => run_execOp_load (by rfl) (by simp [Act.eval]) (run_load_i64 _ _ W ((Mx.at_ hW).cell 0)))) ?_
  simp only [Act.put, List.getElem_toArray, List.getElem_cons_succ, List.getElem_cons_zero, List.setIfInBounds_toArray, List.set_cons_zero, List.set_cons_succ]
  refine u_take 3 rfl (o := _) rfl (by kernel_rfl) (by kernel_rfl) (by kernel_rfl) (.int .i64 32) (fun _ _ _ h => h) (g_value rfl (wanted_plain rfl) (fun f W hW => run_move (by rfl) (by simp [Act.eval]) W)) ?_
  simp only [Act.put, List.getElem_toArray, List.getElem_cons_succ, List.getElem_cons_zero, List.setIfInBounds_toArray, List.set_cons_zero, List.set_cons_succ]
  refine u_take 4 rfl (o := _) rfl (by kernel_rfl) (by kernel_rfl) (by kernel_rfl) (.int .u32 ((n32 (Sha32.rot x a) : Nat) : Int)) (fun _ _ _ h => h) (g_call rfl (wanted_plain rfl) 88 _ _ rfl #[.int .u32 ((n32 x : Nat) : Int), .int .i64 (a : Int), .int .i64 32] (by simp [Act.eval]) (enter_turned32 _) (fun f W hW => Mx.call hW (turned32_any x a ha W))) ?_
  simp only [Act.put, List.getElem_toArray, List.getElem_cons_succ, List.getElem_cons_zero, List.setIfInBounds_toArray, List.set_cons_zero, List.set_cons_succ]
  refine u_take 5 rfl (o := _) rfl (by kernel_rfl) (by kernel_rfl) (by kernel_rfl) (.int .u32 ((n32 x : Nat) : Int)) (fun _ _ _ h => h) (g_value rfl (wanted_plain rfl) (fun f W hW => run_move (by rfl) (by simp [Act.eval]) W)) ?_
  simp only [Act.put, List.getElem_toArray, List.getElem_cons_succ, List.getElem_cons_zero, List.setIfInBounds_toArray, List.set_cons_zero, List.set_cons_succ]
  refine u_take 6 rfl (o := _) rfl (by kernel_rfl) (by kernel_rfl) (by kernel_rfl) (.pointer (some ⟨w.heap.size, 1, none⟩)) (fun _ _ _ h => h) (g_value rfl (wanted_plain rfl) (fun f W hW => run_indexAddr (by rfl) (by simp [Act.eval]) (by simp [Act.eval]) (index3 w.heap.size 1 (by omega)))) ?_
  simp only [Act.put, List.getElem_toArray, List.getElem_cons_succ, List.getElem_cons_zero, List.setIfInBounds_toArray, List.set_cons_zero, List.set_cons_succ]
  refine u_take 7 rfl (o := _) rfl (by kernel_rfl) (by kernel_rfl) (by kernel_rfl) (.int .i64 (b : Int)) (fun _ _ _ h => h) (g_value rfl (wanted_plain rfl) (fun f W hW => run_execOp_load (by rfl) (by simp [Act.eval]) (run_load_i64 _ _ W ((Mx.at_ hW).cell 1)))) ?_
  simp only [Act.put, List.getElem_toArray, List.getElem_cons_succ, List.getElem_cons_zero, List.setIfInBounds_toArray, List.set_cons_zero, List.set_cons_succ]
  refine u_take 8 rfl (o := _) rfl (by kernel_rfl) (by kernel_rfl) (by kernel_rfl) (.int .i64 32) (fun _ _ _ h => h) (g_value rfl (wanted_plain rfl) (fun f W hW => run_move (by rfl) (by simp [Act.eval]) W)) ?_
  simp only [Act.put, List.getElem_toArray, List.getElem_cons_succ, List.getElem_cons_zero, List.setIfInBounds_toArray, List.set_cons_zero, List.set_cons_succ]
  refine u_take 9 rfl (o := _) rfl (by kernel_rfl) (by kernel_rfl) (by kernel_rfl) (.int .u32 ((n32 (Sha32.rot x b) : Nat) : Int)) (fun _ _ _ h => h) (g_call rfl (wanted_plain rfl) 88 _ _ rfl #[.int .u32 ((n32 x : Nat) : Int), .int .i64 (b : Int), .int .i64 32] (by simp [Act.eval]) (enter_turned32 _) (fun f W hW => Mx.call hW (turned32_any x b hb W))) ?_
  simp only [Act.put, List.getElem_toArray, List.getElem_cons_succ, List.getElem_cons_zero, List.setIfInBounds_toArray, List.set_cons_zero, List.set_cons_succ]
  refine u_take 10 rfl (o := _) rfl (by kernel_rfl) (by kernel_rfl) (by kernel_rfl) (.int .u32 ((n32 (Sha32.rot x a ^^^ Sha32.rot x b) : Nat) : Int)) (fun _ _ _ h => h) (g_value rfl (wanted_plain rfl) (fun f W hW => run_xor32 (by rfl) (Sha32.rot x a) (Sha32.rot x b) (by simp [Act.eval]) (by simp [Act.eval]) W)) ?_
  simp only [Act.put, List.getElem_toArray, List.getElem_cons_succ, List.getElem_cons_zero, List.setIfInBounds_toArray, List.set_cons_zero, List.set_cons_succ]
  refine u_take 11 rfl (o := _) rfl (by kernel_rfl) (by kernel_rfl) (by kernel_rfl) (.int .u32 ((n32 (Sha32.rot x a ^^^ Sha32.rot x b) : Nat) : Int)) (fun _ _ _ h => h) (g_value rfl (wanted_plain rfl) (fun f W hW => run_assign (by rfl) (by simp [Act.eval]) W)) ?_
  simp only [Act.put, List.getElem_toArray, List.getElem_cons_succ, List.getElem_cons_zero, List.setIfInBounds_toArray, List.set_cons_zero, List.set_cons_succ]
  refine u_done (by kernel_rfl) (fun W1 hW1 => ?_) _
  have hW1 : Mx w (three a b c) W1 := hW1
  have c2 : W1.cell? ⟨w.heap.size, 2, none⟩ = some (.int .i64 (c : Int)) := hW1.at_.cell 2
  have v2 : (0 : Int) ≤ (c : Int) := by omega
  cases sh
  · go_wp2_with (go_at_call 88; refine (turned32_any x c hc _).mono ?_; rintro e w5 ⟨rfl, hB5⟩)
    go_ret
    exact ⟨rfl, (hW1.next hB5).old⟩
  · go_wp2
    go_ret
    exact ⟨rfl, hW1.old⟩
theorem enter_turned64 (args : Array Value) (w : World) : (callFunc 89 args).run Tryz.prog w = .ok (.enter 89 args) w := by kernel_rfl
theorem run_xor64 {P : Program} {o : Oper} {ρ : Operand → Value} {x y : Operand} {t rt : TypeId} (ho : o.op = .binOp .xor t x y rt) (a b : UInt64) (hx : ρ x = .int .u64 ((n64 a : Nat) : Int)) (hy : ρ y = .int .u64 ((n64 b : Nat) : Int)) (w : World) :
    (execOp ρ o).run P w = .ok (.value (.int .u64 ((n64 (a ^^^ b) : Nat) : Int))) w := by
  unfold execOp
  simp only [ho, hx, hy]
  simp [go_sem]
set_option maxHeartbeats 2000000 in
set_option maxRecDepth 100000 in
theorem turned64_any (x : UInt64) (n : Nat) (hn : n ≤ 64) (w : World) :
    Calls Tryz.prog 89 #[.int .u64 ((n64 x : Nat) : Int), .int .i64 (n : Int), .int .i64 64] w fun e w' => e = .returned (.int .u64 ((n64 (Sha64.rot x n) : Nat) : Int)) ∧ Below w.heap.size w w' := by
  have e1 : (64 : Int) - (n : Int) = ((64 - n : Nat) : Int) := by omega
  obtain ⟨m, Hm⟩ : ∃ m, Hd (64 - n = m) := ⟨_, ⟨rfl⟩⟩
  rw [Hm.out] at e1
  have v1 : IntKind.i64.wrap (m : Int) = (m : Int) := IntWalk.i64_in _ (by have := Hm.out; omega)
  have v2 : (0 : Int) ≤ (n : Int) := by omega
  have v3 : (0 : Int) ≤ (m : Int) := by omega
  have Hr := hd (show Sha64.rot x n = shr64 x n ||| shl64 x m by rw [Sha64.rot, Hm.out])
  go_enter Tryz.func89, Tryz.ntmps89
  go_wp2
  go_quiet (fail)
  go_wp2
  go_ret
  exact ⟨by rw [Hr.out]; rfl, below_drewN (Below.refl _ _) _⟩
set_option maxHeartbeats 4000000 in
set_option maxRecDepth 100000 in
theorem mixed64_any (x : UInt64) (a b c : Nat) (ha : a ≤ 64) (hb : b ≤ 64) (hc : c ≤ 64) (sh : Bool) (w : World) :
    Calls Tryz.prog 81 #[.int .u64 ((n64 x : Nat) : Int), .int .i64 64, .agg (three a b c), .bool sh] w fun e w' => e = .returned (.int .u64 ((n64 (if sh then Sha64.sig a b c x else Sha64.big a b c x) : Nat) : Int)) ∧ Below w.heap.size w w' := by
  have hS0 : Mx w (three a b c) (w.alloc (.cells (three a b c) 90)) := ⟨Blk.nu rfl, (Below.refl _ _).alloc (Nat.le_refl _) _⟩
  go_enter Tryz.func81, Tryz.ntmps81
  go_wp2
  refine u_start (S := fun _ => Mx w (three a b c)) 99 (by kernel_rfl) (hS0.next (Below.refl _ _).drew) ?_
  refine u_take 0 rfl (o := _) rfl (by kernel_rfl) (by kernel_rfl) (by kernel_rfl) (.int .u64 ((n64 x : Nat) : Int)) (fun _ _ _ h => h) (g_value rfl (wanted_plain rfl) (fun f W hW => run_move (by rfl) (by simp [Act.eval]) W)) ?_
  simp only [Act.put, List.getElem_toArray, List.getElem_cons_succ, List.getElem_cons_zero, List.setIfInBounds_toArray, List.set_cons_zero, List.set_cons_succ]
  refine u_take 1 rfl (o := _) rfl (by kernel_rfl) (by kernel_rfl) (by kernel_rfl) (.pointer (some ⟨w.heap.size, 0, none⟩)) (fun _ _ _ h => h) (g_value rfl (wanted_plain rfl) (fun f W hW => run_indexAddr (by rfl) (by simp [Act.eval]) (by simp [Act.eval]) (index3 w.heap.size 0 (by omega)))) ?_
  simp only [Act.put, List.getElem_toArray, List.getElem_cons_succ, List.getElem_cons_zero, List.setIfInBounds_toArray, List.set_cons_zero, List.set_cons_succ]
  refine u_take 2 rfl (o := _) rfl (by kernel_rfl) (by kernel_rfl) (by kernel_rfl) (.int .i64 (a : Int)) (fun _ _ _ h => h) (g_value rfl (wanted_plain rfl) (fun f W hW => run_execOp_load (by rfl) (by simp [Act.eval]) (run_load_i64 _ _ W ((Mx.at_ hW).cell 0)))) ?_
  simp only [Act.put, List.getElem_toArray, List.getElem_cons_succ, List.getElem_cons_zero, List.setIfInBounds_toArray, List.set_cons_zero, List.set_cons_succ]
  refine u_take 3 rfl (o := _) rfl (by kernel_rfl) (by kernel_rfl) (by kernel_rfl) (.int .i64 64) (fun _ _ _ h => h) (g_value rfl (wanted_plain rfl) (fun f W hW => run_move (by rfl) (by simp [Act.eval]) W)) ?_
  simp only [Act.put, List.getElem_toArray, List.getElem_cons_succ, List.getElem_cons_zero, List.setIfInBounds_toArray, List.set_cons_zero, List.set_cons_succ]
  refine u_take 4 rfl (o := _) rfl (by kernel_rfl) (by kernel_rfl) (by kernel_rfl) (.int .u64 ((n64 (Sha64.rot x a) : Nat) : Int)) (fun _ _ _ h => h) (g_call rfl (wanted_plain rfl) 89 _ _ rfl #[.int .u64 ((n64 x : Nat) : Int), .int .i64 (a : Int), .int .i64 64] (by simp [Act.eval]) (enter_turned64 _) (fun f W hW => Mx.call hW (turned64_any x a ha W))) ?_
  simp only [Act.put, List.getElem_toArray, List.getElem_cons_succ, List.getElem_cons_zero, List.setIfInBounds_toArray, List.set_cons_zero, List.set_cons_succ]
  refine u_take 5 rfl (o := _) rfl (by kernel_rfl) (by kernel_rfl) (by kernel_rfl) (.int .u64 ((n64 x : Nat) : Int)) (fun _ _ _ h => h) (g_value rfl (wanted_plain rfl) (fun f W hW => run_move (by rfl) (by simp [Act.eval]) W)) ?_
  simp only [Act.put, List.getElem_toArray, List.getElem_cons_succ, List.getElem_cons_zero, List.setIfInBounds_toArray, List.set_cons_zero, List.set_cons_succ]
  refine u_take 6 rfl (o := _) rfl (by kernel_rfl) (by kernel_rfl) (by kernel_rfl) (.pointer (some ⟨w.heap.size, 1, none⟩)) (fun _ _ _ h => h) (g_value rfl (wanted_plain rfl) (fun f W hW => run_indexAddr (by rfl) (by simp [Act.eval]) (by simp [Act.eval]) (index3 w.heap.size 1 (by omega)))) ?_
  simp only [Act.put, List.getElem_toArray, List.getElem_cons_succ, List.getElem_cons_zero, List.setIfInBounds_toArray, List.set_cons_zero, List.set_cons_succ]
  refine u_take 7 rfl (o := _) rfl (by kernel_rfl) (by kernel_rfl) (by kernel_rfl) (.int .i64 (b : Int)) (fun _ _ _ h => h) (g_value rfl (wanted_plain rfl) (fun f W hW => run_execOp_load (by rfl) (by simp [Act.eval]) (run_load_i64 _ _ W ((Mx.at_ hW).cell 1)))) ?_
  simp only [Act.put, List.getElem_toArray, List.getElem_cons_succ, List.getElem_cons_zero, List.setIfInBounds_toArray, List.set_cons_zero, List.set_cons_succ]
  refine u_take 8 rfl (o := _) rfl (by kernel_rfl) (by kernel_rfl) (by kernel_rfl) (.int .i64 64) (fun _ _ _ h => h) (g_value rfl (wanted_plain rfl) (fun f W hW => run_move (by rfl) (by simp [Act.eval]) W)) ?_
  simp only [Act.put, List.getElem_toArray, List.getElem_cons_succ, List.getElem_cons_zero, List.setIfInBounds_toArray, List.set_cons_zero, List.set_cons_succ]
  refine u_take 9 rfl (o := _) rfl (by kernel_rfl) (by kernel_rfl) (by kernel_rfl) (.int .u64 ((n64 (Sha64.rot x b) : Nat) : Int)) (fun _ _ _ h => h) (g_call rfl (wanted_plain rfl) 89 _ _ rfl #[.int .u64 ((n64 x : Nat) : Int), .int .i64 (b : Int), .int .i64 64] (by simp [Act.eval]) (enter_turned64 _) (fun f W hW => Mx.call hW (turned64_any x b hb W))) ?_
  simp only [Act.put, List.getElem_toArray, List.getElem_cons_succ, List.getElem_cons_zero, List.setIfInBounds_toArray, List.set_cons_zero, List.set_cons_succ]
  refine u_take 10 rfl (o := _) rfl (by kernel_rfl) (by kernel_rfl) (by kernel_rfl) (.int .u64 ((n64 (Sha64.rot x a ^^^ Sha64.rot x b) : Nat) : Int)) (fun _ _ _ h => h) (g_value rfl (wanted_plain rfl) (fun f W hW => run_xor64 (by rfl) (Sha64.rot x a) (Sha64.rot x b) (by simp [Act.eval]) (by simp [Act.eval]) W)) ?_
  simp only [Act.put, List.getElem_toArray, List.getElem_cons_succ, List.getElem_cons_zero, List.setIfInBounds_toArray, List.set_cons_zero, List.set_cons_succ]
  refine u_take 11 rfl (o := _) rfl (by kernel_rfl) (by kernel_rfl) (by kernel_rfl) (.int .u64 ((n64 (Sha64.rot x a ^^^ Sha64.rot x b) : Nat) : Int)) (fun _ _ _ h => h) (g_value rfl (wanted_plain rfl) (fun f W hW => run_assign (by rfl) (by simp [Act.eval]) W)) ?_
  simp only [Act.put, List.getElem_toArray, List.getElem_cons_succ, List.getElem_cons_zero, List.setIfInBounds_toArray, List.set_cons_zero, List.set_cons_succ]
  refine u_done (by kernel_rfl) (fun W1 hW1 => ?_) _
  have hW1 : Mx w (three a b c) W1 := hW1
  have c2 : W1.cell? ⟨w.heap.size, 2, none⟩ = some (.int .i64 (c : Int)) := hW1.at_.cell 2
  have v2 : (0 : Int) ≤ (c : Int) := by omega
  cases sh
  · go_wp2_with (go_at_call 89; refine (turned64_any x c hc _).mono ?_; rintro e w5 ⟨rfl, hB5⟩)
    go_ret
    exact ⟨rfl, (hW1.next hB5).old⟩
  · go_wp2
    go_ret
    exact ⟨rfl, hW1.old⟩
end Go.Proofs.YtbcboldepghgpaaGreatDoor
