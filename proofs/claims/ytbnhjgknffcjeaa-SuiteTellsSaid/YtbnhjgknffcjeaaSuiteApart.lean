/-
  The walk of the statement SuiteApart.
-/
import Derived.Test.YtbnhjgknffcjeaaSuiteC
import Derived.Test.YtbnhjgknffcjeaaNonce
import Derived.Test.YtbnhjgknffcjeaaHeldU
import Derived.Test.YtbnhjgknffcjeaaHeldB
set_option linter.unusedVariables false
set_option linter.unusedSimpArgs false
namespace Go.Proofs.Ytbnhjgknffcjeaa
open Go.RowKit
theorem enter_nonce (args : Array Value) (w : World) : (callFunc 8 args).run Try.prog w = .ok (.enter 8 args) w := by kernel_rfl
theorem guard12 : Try.prog.eqGuardType Try.prog.depth 22 = false := by kernel_rfl
theorem eq12 (a b : List UInt8) (ha : a.length = 12) (hb : b.length = 12) (W : World) : (Op.equalIn 10000 22 (.agg (arr a)) (.agg (arr b))).run Try.prog W = .ok (decide (a = b)) W := run_equalIn_arr W 9998 Try.underlying22 Try.underlying5 one8 a b ha hb
theorem run_eql_arr12 {w : World} {o : Oper} {ρ : Operand → Value} {x y : Operand} {rt : TypeId} (ho : o.op = .binOp .eql 22 x y rt) (l m : List UInt8) (hx : ρ x = .agg (arr l)) (hy : ρ y = .agg (arr m)) (hl : l.length = 12) (hm : m.length = 12) (d : Bool) (hd : decide (l = m) = d) :
    (execOp ρ o).run Try.prog w = .ok (.value (.bool d)) w := by
  subst hd
  unfold execOp
  simp only [ho, hx, hy, Sem.run_bind, run_eqGuard_agg _ _ _ _ _ _ _ guard12, run_eql_struct, eq12 l m hl hm, Result.andThen_ok]
  rfl
/-- An iv that lies there. -/
structure IvS (w : World) (iv : List UInt8) (W : World) : Prop where
  at_ : Blk W w.heap.size 22 (arr iv)
  old : Below w.heap.size w W
theorem IvS.next {w : World} {iv : List UInt8} {W w' : World} (h : IvS w iv W) (hb : Below W.heap.size W w') : IvS w iv w' := ⟨h.at_.below hb h.at_.lt, h.old.trans (hb.mono h.old.size)⟩
theorem IvS.call {w : World} {iv : List UInt8} {W : World} {P : Program} {f : FuncId} {args : Array Value} {v : Value} (h : IvS w iv W) (hc : Calls P f args W fun e w' => e = .returned v ∧ Below W.heap.size W w') :
    Calls P f args W fun e w' => e = .returned v ∧ IvS w iv w' := hc.mono fun _ _ ⟨he, hb⟩ => ⟨he, h.next hb⟩
theorem run_eql_u64 {P : Program} {o : Oper} {ρ : Operand → Value} {x y : Operand} {t rt : TypeId} (ho : o.op = .binOp .eql t x y rt) (a b : UInt64) (hx : ρ x = .int .u64 ((n64 a : Nat) : Int)) (hy : ρ y = .int .u64 ((n64 b : Nat) : Int)) (d : Bool) (hd : (a == b) = d) (w : World) :
    (execOp ρ o).run P w = .ok (.value (.bool d)) w := by
  subst hd
  unfold execOp
  simp only [ho, hx, hy]
  simp [go_sem]
theorem run_eql_boolS {P : Program} {o : Oper} {ρ : Operand → Value} {x y : Operand} {t rt : TypeId} (ho : o.op = .binOp .eql t x y rt) (d : Bool) (hx : ρ x = .bool d) (hy : ρ y = .bool d) (ht : P.underlying t = some .bool) (w : World) :
    (execOp ρ o).run P w = .ok (.value (.bool true)) w := by
  have h := run_eql_bool (w := w) ho d d hx hy ht
  rwa [beq_self_eq_true] at h
set_option maxHeartbeats 4000000 in
set_option maxRecDepth 100000 in
theorem apart10_all (iv : List UInt8) (a b : UInt64) (w : World) (hiv : iv.length = 12) :
    Calls Try.prog 3 #[.agg (arr iv), .int .u64 ((n64 a : Nat) : Int), .int .u64 ((n64 b : Nat) : Int)] w fun e w' => e = .returned (.bool true) ∧ Below w.heap.size w w' := by
  have Hiv := hd hiv
  clear hiv
  obtain ⟨x, Hx⟩ : ∃ l, Hd (Suite.nonceOf iv a = l) := ⟨_, ⟨rfl⟩⟩
  obtain ⟨y, Hy⟩ : ∃ l, Hd (Suite.nonceOf iv b = l) := ⟨_, ⟨rfl⟩⟩
  have Hxl := hd (show x.length = 12 by rw [← Hx.out, Suite.nonce_len, Hiv.out])
  have Hyl := hd (show y.length = 12 by rw [← Hy.out, Suite.nonce_len, Hiv.out])
  obtain ⟨t, Ht⟩ : ∃ t, Hd (decide (x = y) = t) := ⟨_, ⟨rfl⟩⟩
  have Hab := hd (show (a == b) = t by rw [← Ht.out, Bool.eq_iff_iff, beq_iff_eq, decide_eq_true_iff, ← Hx.out, ← Hy.out]; exact (Suite.nonce_apart iv Hiv.out a b).symm)
  have hB0 := (Below.refl w.heap.size w).alloc (Nat.le_refl _) (.cells (arr iv) 22)
  go_enter Try.func3, Try.ntmps3
  go_wp2_with fail
  refine (head10_any _).mono ?_
  rintro e w1 ⟨rfl, hB1⟩
  have hE : IvS w iv w1 := ⟨(Blk.nu rfl).below hB1 (by simp), hB0.trans (hB1.mono hB0.size)⟩
  clear hB0 hB1
  go_wp2_with fail
  refine u_start (S := fun _ => IvS w iv) 99 (by kernel_rfl) (hE.next (Below.refl _ _).drew) ?_
  refine u_take 0 rfl (o := _) rfl (by kernel_rfl) (by kernel_rfl) (by kernel_rfl) (.bool true) (fun _ _ _ h => h) (g_value rfl (wanted_plain rfl) (fun f W hW => run_move (by rfl) (by simp [Act.eval]) W)) ?_
  simp only [Act.put, List.getElem_toArray, List.getElem_cons_succ, List.getElem_cons_zero, List.setIfInBounds_toArray, List.set_cons_zero, List.set_cons_succ]
  refine u_take 1 rfl (o := _) rfl (by kernel_rfl) (by kernel_rfl) (by kernel_rfl) (.bool true) (fun _ _ _ h => h) (g_value rfl (wanted_plain rfl) (fun f W hW => run_move (by rfl) (by simp [Act.eval]) W)) ?_
  simp only [Act.put, List.getElem_toArray, List.getElem_cons_succ, List.getElem_cons_zero, List.setIfInBounds_toArray, List.set_cons_zero, List.set_cons_succ]
  refine u_take 2 rfl (o := _) rfl (by kernel_rfl) (by kernel_rfl) (by kernel_rfl) (.agg (arr iv)) (fun _ _ _ h => h) (g_value rfl (by simp [Region.wanted, yielded]) (fun f W hW => run_load_arr (by rfl) (by simp [Act.eval]) ty12 iv Hiv.out (IvS.at_ hW).cells_arr)) ?_
  simp only [Act.put, List.getElem_toArray, List.getElem_cons_succ, List.getElem_cons_zero, List.setIfInBounds_toArray, List.set_cons_zero, List.set_cons_succ]
  refine u_take 3 rfl (o := _) rfl (by kernel_rfl) (by kernel_rfl) (by kernel_rfl) (.int .u64 ((n64 a : Nat) : Int)) (fun _ _ _ h => h) (g_value rfl (by simp [Region.wanted, yielded]) (fun f W hW => run_move (by rfl) (by simp [Act.eval]) W)) ?_
  simp only [Act.put, List.getElem_toArray, List.getElem_cons_succ, List.getElem_cons_zero, List.setIfInBounds_toArray, List.set_cons_zero, List.set_cons_succ]
  refine u_take 4 rfl (o := _) rfl (by kernel_rfl) (by kernel_rfl) (by kernel_rfl) (.agg (arr x)) (fun _ _ _ h => h) (g_call rfl (by simp [Region.wanted, yielded]) 8 _ _ rfl #[.agg (arr iv), .int .u64 ((n64 a : Nat) : Int)] (by simp [Act.eval]) (enter_nonce _) (fun f W hW => IvS.call hW (by have h := nonce_any iv Hiv.out a W; rw [Hx.out] at h; exact h))) ?_
  simp only [Act.put, List.getElem_toArray, List.getElem_cons_succ, List.getElem_cons_zero, List.setIfInBounds_toArray, List.set_cons_zero, List.set_cons_succ]
  refine u_take 5 rfl (o := _) rfl (by kernel_rfl) (by kernel_rfl) (by kernel_rfl) (.agg (arr iv)) (fun _ _ _ h => h) (g_value rfl (by simp [Region.wanted, yielded]) (fun f W hW => run_load_arr (by rfl) (by simp [Act.eval]) ty12 iv Hiv.out (IvS.at_ hW).cells_arr)) ?_
  simp only [Act.put, List.getElem_toArray, List.getElem_cons_succ, List.getElem_cons_zero, List.setIfInBounds_toArray, List.set_cons_zero, List.set_cons_succ]
  refine u_take 6 rfl (o := _) rfl (by kernel_rfl) (by kernel_rfl) (by kernel_rfl) (.int .u64 ((n64 b : Nat) : Int)) (fun _ _ _ h => h) (g_value rfl (by simp [Region.wanted, yielded]) (fun f W hW => run_move (by rfl) (by simp [Act.eval]) W)) ?_
  simp only [Act.put, List.getElem_toArray, List.getElem_cons_succ, List.getElem_cons_zero, List.setIfInBounds_toArray, List.set_cons_zero, List.set_cons_succ]
  refine u_take 7 rfl (o := _) rfl (by kernel_rfl) (by kernel_rfl) (by kernel_rfl) (.agg (arr y)) (fun _ _ _ h => h) (g_call rfl (by simp [Region.wanted, yielded]) 8 _ _ rfl #[.agg (arr iv), .int .u64 ((n64 b : Nat) : Int)] (by simp [Act.eval]) (enter_nonce _) (fun f W hW => IvS.call hW (by have h := nonce_any iv Hiv.out b W; rw [Hy.out] at h; exact h))) ?_
  simp only [Act.put, List.getElem_toArray, List.getElem_cons_succ, List.getElem_cons_zero, List.setIfInBounds_toArray, List.set_cons_zero, List.set_cons_succ]
  refine u_take 8 rfl (o := _) rfl (by kernel_rfl) (by kernel_rfl) (by kernel_rfl) (.bool t) (fun _ _ _ h => h) (g_value rfl (by simp [Region.wanted, yielded]) (fun f W hW => run_eql_arr12 (by rfl) x y (by simp [Act.eval]) (by simp [Act.eval]) Hxl.out Hyl.out t Ht.out)) ?_
  simp only [Act.put, List.getElem_toArray, List.getElem_cons_succ, List.getElem_cons_zero, List.setIfInBounds_toArray, List.set_cons_zero, List.set_cons_succ]
  refine u_take 9 rfl (o := _) rfl (by kernel_rfl) (by kernel_rfl) (by kernel_rfl) (.int .u64 ((n64 a : Nat) : Int)) (fun _ _ _ h => h) (g_value rfl (by simp [Region.wanted, yielded]) (fun f W hW => run_move (by rfl) (by simp [Act.eval]) W)) ?_
  simp only [Act.put, List.getElem_toArray, List.getElem_cons_succ, List.getElem_cons_zero, List.setIfInBounds_toArray, List.set_cons_zero, List.set_cons_succ]
  refine u_take 10 rfl (o := _) rfl (by kernel_rfl) (by kernel_rfl) (by kernel_rfl) (.int .u64 ((n64 b : Nat) : Int)) (fun _ _ _ h => h) (g_value rfl (by simp [Region.wanted, yielded]) (fun f W hW => run_move (by rfl) (by simp [Act.eval]) W)) ?_
  simp only [Act.put, List.getElem_toArray, List.getElem_cons_succ, List.getElem_cons_zero, List.setIfInBounds_toArray, List.set_cons_zero, List.set_cons_succ]
  refine u_take 11 rfl (o := _) rfl (by kernel_rfl) (by kernel_rfl) (by kernel_rfl) (.bool t) (fun _ _ _ h => h) (g_value rfl (by simp [Region.wanted, yielded]) (fun f W hW => run_eql_u64 (by rfl) a b (by simp [Act.eval]) (by simp [Act.eval]) t Hab.out W)) ?_
  simp only [Act.put, List.getElem_toArray, List.getElem_cons_succ, List.getElem_cons_zero, List.setIfInBounds_toArray, List.set_cons_zero, List.set_cons_succ]
  refine u_take 12 rfl (o := _) rfl (by kernel_rfl) (by kernel_rfl) (by kernel_rfl) (.bool true) (fun _ _ _ h => h) (g_value rfl (by simp [Region.wanted, yielded]) (fun f W hW => run_eql_boolS (by rfl) t (by simp [Act.eval]) (by simp [Act.eval]) Try.underlying4 W)) ?_
  simp only [Act.put, List.getElem_toArray, List.getElem_cons_succ, List.getElem_cons_zero, List.setIfInBounds_toArray, List.set_cons_zero, List.set_cons_succ]
  refine u_take 13 rfl (o := _) rfl (by kernel_rfl) (by kernel_rfl) (by kernel_rfl) (.bool true) (fun _ _ _ h => h) (g_value rfl (wanted_plain rfl) (fun f W hW => run_pick (b := true) (by rfl) (by simp [Act.eval]) (by simp [Act.eval]) W)) ?_
  simp only [Act.put, List.getElem_toArray, List.getElem_cons_succ, List.getElem_cons_zero, List.setIfInBounds_toArray, List.set_cons_zero, List.set_cons_succ]
  refine u_take 14 rfl (o := _) rfl (by kernel_rfl) (by kernel_rfl) (by kernel_rfl) (.bool true) (fun _ _ _ h => h) (g_value rfl (wanted_plain rfl) (fun f W hW => run_assign (by rfl) (by simp [Act.eval]) W)) ?_
  simp only [Act.put, List.getElem_toArray, List.getElem_cons_succ, List.getElem_cons_zero, List.setIfInBounds_toArray, List.set_cons_zero, List.set_cons_succ]
  refine u_done (by kernel_rfl) (fun W7 hW7 => ?_) _
  have hW7 : IvS w iv W7 := hW7
  go_wp2
  go_ret
  exact ⟨rfl, hW7.old⟩
end Go.Proofs.Ytbnhjgknffcjeaa
