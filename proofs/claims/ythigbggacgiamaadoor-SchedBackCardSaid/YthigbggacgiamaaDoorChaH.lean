/-
  The walk of poly's times.
-/
import Derived.Test.YthigbggacgiamaaDoorJc
import Derived.Test.YthigbggacgiamaaDoorJa
set_option linter.unusedVariables false
set_option linter.unusedSimpArgs false
set_option maxRecDepth 100000
namespace Go.Proofs.YthigbggacgiamaaDoor
open Go.RowKit
namespace Cha
def cells2 (a b : UInt64) : Array Value := #[.int .u64 ((n64 a : Nat) : Int), .int .u64 ((n64 b : Nat) : Int)]
def P4.more (t : P4) (x : UInt64) : P4 := ⟨t.a, t.b, t.c, t.d + x⟩
def P3.prod (p : P3) (r s : UInt64) : P4 := (((((P4.add0 ⟨0, 0, 0, 0⟩ p.a r).add1 p.a s).add1 p.b r).add2 p.b s).add2 p.c r).more (p.c * s)
/-- A product, and what stands above 2^130 brought down. -/
def P3.times (p : P3) (r s : UInt64) : P3 :=
  let t := p.prod r s
  let lo := t.c &&& ~~~3
  let hi := t.d
  ((P3.plus ⟨t.a, t.b, t.c &&& 3⟩ lo hi 0).plus (lo >>> 2 ||| hi <<< 62) (hi >>> 2) 0)
theorem zero4 : (Tryd.prog.info? 159).bind (·.zero) = some (.agg #[.int .u64 0, .int .u64 0, .int .u64 0, .int .u64 0]) := by kernel_rfl
/-- What the walk of a product holds. -/
structure Tm (w : World) (p : P3) (r s : UInt64) (t : P4) (w1 : World) : Prop where
  bp : Blk w1 w.heap.size 150 p.cells
  br : Blk w1 (w.heap.size + 1) 148 (cells2 r s)
  bo : Blk w1 (w.heap.size + 1 + 1) 150 (P3.cells ⟨0, 0, 0⟩)
  bt : Blk w1 (w.heap.size + 1 + 1 + 1) 159 t.cells
  old : Below w.heap.size w w1
theorem Tm.step {w w1 w2 : World} {p : P3} {r s : UInt64} {t t' : P4} (h : Tm w p r s t w1) (hb : Blk w2 (w.heap.size + 1 + 1 + 1) 159 t'.cells) (hg : w1.grownBy w2 (some (w.heap.size + 1 + 1 + 1))) : Tm w p r s t' w2 :=
  ⟨h.bp.grown hg (by simp <;> omega), h.br.grown hg (by simp <;> omega), h.bo.grown hg (by simp <;> omega), hb, below_moved h.old hg (by omega) h.old.size⟩
end Cha
namespace Cha
theorem enter_add (args : Array Value) (w : World) : (callFunc 86 args).run Tryd.prog w = .ok (.enter 86 args) w := by kernel_rfl
theorem run_indexAddr {P : Program} {w : World} {o : Oper} {ρ : Operand → Value} {t : TypeId} {x y : Operand} {v u r : Value} (ho : o.op = .indexAddr t x y) (hx : ρ x = v) (hy : ρ y = u) (h : ∀ w, (Instr.indexAt t v u).run P w = .ok r w) : (execOp ρ o).run P w = .ok (.value r) w := by
  unfold execOp
  simp only [ho, hx, hy, Sem.run_bind, h, Result.andThen_ok]
  rfl
theorem run_load_u64 (ad : Addr) (v : Value) (w : World) (h : w.cell? ad = some v) : (loadVar 31 ad).run Tryd.prog w = .ok v w := by
  simp [loadVar, go_sem, h]
theorem run_andNot64 {P : Program} {w : World} {o : Oper} {ρ : Operand → Value} {x y : Operand} {t rt : TypeId} (ho : o.op = .binOp .andNot t x y rt) (i : UInt64) (hx : ρ x = .int .u64 ((n64 i : Nat) : Int)) (hy : ρ y = .int .u64 3) : (execOp ρ o).run P w = .ok (.value (.int .u64 ((n64 (i &&& ~~~3) : Nat) : Int))) w := by
  unfold execOp
  simp only [ho, hx, hy]
  simp [go_sem]
theorem run_addI {P : Program} {w : World} {o : Oper} {ρ : Operand → Value} {x y : Operand} {t rt : TypeId} (ho : o.op = .binOp .add t x y rt) (i j k : Int) (hx : ρ x = .int .i64 i) (hy : ρ y = .int .i64 j) (hk : IntKind.i64.wrap (i + j) = k) : (execOp ρ o).run P w = .ok (.value (.int .i64 k)) w := by
  subst hk
  unfold execOp
  simp only [ho, hx, hy]
  simp [go_sem]
end Cha
theorem Cha.Tm.next {w w1 w2 : World} {p : Cha.P3} {r s : UInt64} {t : Cha.P4} (h : Cha.Tm w p r s t w1) (hb : Below w1.heap.size w1 w2) : Cha.Tm w p r s t w2 :=
  ⟨h.bp.below hb h.bp.lt, h.br.below hb h.br.lt, h.bo.below hb h.bo.lt, h.bt.below hb h.bt.lt, h.old.trans (hb.mono h.old.size)⟩
section
variable {w : World} {o : Oper} {a : Act} {Q : Exit → Act → World → Prop} {ops : Array Oper} {rest : List Oper}
theorem Cha.wpl_load3 (hgd : o.guard = none) (x : Operand) (ho : o.op = .load 150 x) (g : Nat) (p : Cha.P3) (hx : a.eval x = .pointer (some ⟨g, 0, none⟩)) (t : TypeId) (hb : Blk w g t p.cells) (h : wpList Tryd.prog ops Q rest (a.put o.dst (.agg p.cells)) w) : wpList Tryd.prog ops Q (o :: rest) a w :=
  wpl_load hgd _ x ho ⟨g, 0, none⟩ hx 3 Cha.agg3 p.cells.toList rfl hb.cells h
theorem Cha.wpl_store3 (hgd : o.guard = none) (x y : Operand) (ho : o.op = .store 150 x y) (g : Nat) (p : Cha.P3) (hx : a.eval x = .pointer (some ⟨g, 0, none⟩)) (hy : a.eval y = .agg p.cells) (t : TypeId) (cs : Array Value) (hb : Blk w g t cs) (hn : cs.size = 3)
    (h : wpList Tryd.prog ops Q rest (a.put o.dst undef) (w.setRow g p.cells)) : wpList Tryd.prog ops Q (o :: rest) a w := by
  refine wpl_store hgd _ x y ho g 0 p.cells.toList hx hy t cs hb Cha.agg3.size (by show 0 + 3 ≤ cs.size; omega) (by intro v hv; simp [Cha.P3.cells] at hv; rcases hv with rfl | rfl | rfl <;> rfl) ?_
  rw [splice_all _ _ (by show 3 = cs.size; omega)]
  exact h
end
theorem Cha.built3 (a b c : UInt64) : Tryd.prog.built 150 [(0, .int .u64 ((n64 a : Nat) : Int)), (1, .int .u64 ((n64 b : Nat) : Int)), (2, .int .u64 ((n64 c : Nat) : Int))] = some (Cha.P3.cells ⟨a, b, c⟩) := by kernel_rfl
theorem Cha.Tm.drew {w w1 : World} {p : Cha.P3} {r s : UInt64} {t : Cha.P4} (h : Cha.Tm w p r s t w1) : Cha.Tm w p r s t w1.drew := ⟨h.bp.drew, h.br.drew, h.bo.drew, h.bt.drew, h.old.drew⟩
set_option maxHeartbeats 16000000 in
set_option maxRecDepth 100000 in
theorem Cha.times_any (p : Cha.P3) (r s : UInt64) (w : World) :
    Calls Tryd.prog 81 #[.agg p.cells, .agg (Cha.cells2 r s)] w fun e w' => e = .returned (.agg (p.times r s).cells) ∧ Below w.heap.size w w' := by
  obtain ⟨a, b, c⟩ := p
  obtain ⟨T0, HT0⟩ : ∃ t : Cha.P4, Hd (⟨0, 0, 0, 0⟩ = t) := ⟨_, ⟨rfl⟩⟩
  obtain ⟨T1, HT1⟩ : ∃ t, Hd (T0.add0 a r = t) := ⟨_, ⟨rfl⟩⟩
  obtain ⟨T2, HT2⟩ : ∃ t, Hd (T1.add1 a s = t) := ⟨_, ⟨rfl⟩⟩
  obtain ⟨T3, HT3⟩ : ∃ t, Hd (T2.add1 b r = t) := ⟨_, ⟨rfl⟩⟩
  obtain ⟨T4, HT4⟩ : ∃ t, Hd (T3.add2 b s = t) := ⟨_, ⟨rfl⟩⟩
  obtain ⟨T5, HT5⟩ : ∃ t, Hd (T4.add2 c r = t) := ⟨_, ⟨rfl⟩⟩
  unfold Cha.P3.cells Cha.cells2
  go_enter Tryd.func81, Tryd.ntmps81
  go_wp2_with (first | (refine wpl_alloc rfl 150 rfl _ Cha.zero3 ?_) | (refine wpl_alloc rfl 159 rfl _ Cha.zero4 ?_; simp only [World.size_alloc]; refine wpl_name (Cha.Tm w ⟨a, b, c⟩ r s T0) ⟨(((Blk.nu rfl).alloc _).alloc _).alloc _, ((Blk.nu (by simp)).alloc _).alloc _, (Blk.nu (by simp)).alloc _, by rw [← HT0.out]; exact Blk.nu (by simp), ((((Below.refl _ _).alloc (by simp) _).alloc (by simp) _).alloc (by simp <;> omega) _).alloc (by simp <;> omega) _⟩ ?_; intro W0 H))
  refine wp_loop_rounds 4 ?_
  rw [rounds_succ]
  go_wp2
  refine wp_loop_rounds 3 ?_
  rw [rounds_succ]
  go_wp2
  refine v_start (S := PW) PR ((fun W => Blk W w.heap.size 150 (Cha.P3.cells ⟨a, b, c⟩) ∧ Blk W (w.heap.size + 1) 148 (Cha.cells2 r s)), Cha.Tm w ⟨a, b, c⟩ r s T0) (by kernel_rfl) ⟨⟨H.bp.drew, H.br.drew⟩, H.drew⟩ ?_
  clear H
  refine p_take 0 (o := _) rfl (by kernel_rfl) (by kernel_rfl) (by kernel_rfl) (wanted_plain rfl) (.func (.func 86) #[] #[.pointer (some ⟨w.heap.size + 1 + 1 + 1, 0, none⟩)]) (fun _ _ _ h => h) (fun W hW => run_move (by rfl) (by simp [Act.eval]) W) ?_
  simp only [Act.put, List.getElem_toArray, List.getElem_cons_succ, List.getElem_cons_zero, List.setIfInBounds_toArray, List.set_cons_zero, List.set_cons_succ]
  refine p_take 1 (o := _) rfl (by kernel_rfl) (by kernel_rfl) (by kernel_rfl) (wanted_plain rfl) (.int .i64 0) (fun _ _ _ h => h) (fun W hW => run_move (by rfl) (by simp [Act.eval]) W) ?_
  simp only [Act.put, List.getElem_toArray, List.getElem_cons_succ, List.getElem_cons_zero, List.setIfInBounds_toArray, List.set_cons_zero, List.set_cons_succ]
  refine p_take 2 (o := _) rfl (by kernel_rfl) (by kernel_rfl) (by kernel_rfl) (wanted_plain rfl) (.int .i64 0) (fun _ _ _ h => h) (fun W hW => run_move (by rfl) (by simp [Act.eval]) W) ?_
  simp only [Act.put, List.getElem_toArray, List.getElem_cons_succ, List.getElem_cons_zero, List.setIfInBounds_toArray, List.set_cons_zero, List.set_cons_succ]
  refine p_take 3 (o := _) rfl (by kernel_rfl) (by kernel_rfl) (by kernel_rfl) (wanted_plain rfl) (.int .i64 0) (fun _ _ _ h => h) (fun W hW => Cha.run_addI (by rfl) 0 0 0 (by simp [Act.eval]) (by simp [Act.eval]) (by decide)) ?_
  simp only [Act.put, List.getElem_toArray, List.getElem_cons_succ, List.getElem_cons_zero, List.setIfInBounds_toArray, List.set_cons_zero, List.set_cons_succ]
  refine p_take 4 (o := _) rfl (by kernel_rfl) (by kernel_rfl) (by kernel_rfl) (wanted_plain rfl) (.int .i64 0) (fun _ _ _ h => h) (fun W hW => run_move (by rfl) (by simp [Act.eval]) W) ?_
  simp only [Act.put, List.getElem_toArray, List.getElem_cons_succ, List.getElem_cons_zero, List.setIfInBounds_toArray, List.set_cons_zero, List.set_cons_succ]
  refine p_take 5 (o := _) rfl (by kernel_rfl) (by kernel_rfl) (by kernel_rfl) (wanted_plain rfl) (.pointer (some ⟨w.heap.size, 0, none⟩)) (fun _ _ _ h => h) (fun W hW => Cha.run_indexAddr (v := .pointer (some ⟨w.heap.size, 0, none⟩)) (u := .int .i64 0) (by rfl) (by simp [Act.eval]) (by simp [Act.eval]) (fun w => by kernel_rfl)) ?_
  simp only [Act.put, List.getElem_toArray, List.getElem_cons_succ, List.getElem_cons_zero, List.setIfInBounds_toArray, List.set_cons_zero, List.set_cons_succ]
  refine p_take 6 (o := _) rfl (by kernel_rfl) (by kernel_rfl) (by kernel_rfl) (wanted_plain rfl) (.int .u64 ((n64 a : Nat) : Int)) (fun _ _ _ h => h) (fun W hW => run_execOp_load (by rfl) (by simp [Act.eval]) (Cha.run_load_u64 _ _ W (hW.1.cell 0))) ?_
  simp only [Act.put, List.getElem_toArray, List.getElem_cons_succ, List.getElem_cons_zero, List.setIfInBounds_toArray, List.set_cons_zero, List.set_cons_succ]
  refine p_take 7 (o := _) rfl (by kernel_rfl) (by kernel_rfl) (by kernel_rfl) (wanted_plain rfl) (.int .i64 0) (fun _ _ _ h => h) (fun W hW => run_move (by rfl) (by simp [Act.eval]) W) ?_
  simp only [Act.put, List.getElem_toArray, List.getElem_cons_succ, List.getElem_cons_zero, List.setIfInBounds_toArray, List.set_cons_zero, List.set_cons_succ]
  refine p_take 8 (o := _) rfl (by kernel_rfl) (by kernel_rfl) (by kernel_rfl) (wanted_plain rfl) (.pointer (some ⟨w.heap.size + 1, 0, none⟩)) (fun _ _ _ h => h) (fun W hW => Cha.run_indexAddr (v := .pointer (some ⟨w.heap.size + 1, 0, none⟩)) (u := .int .i64 0) (by rfl) (by simp [Act.eval]) (by simp [Act.eval]) (fun w => by kernel_rfl)) ?_
  simp only [Act.put, List.getElem_toArray, List.getElem_cons_succ, List.getElem_cons_zero, List.setIfInBounds_toArray, List.set_cons_zero, List.set_cons_succ]
  refine p_take 9 (o := _) rfl (by kernel_rfl) (by kernel_rfl) (by kernel_rfl) (wanted_plain rfl) (.int .u64 ((n64 r : Nat) : Int)) (fun _ _ _ h => h) (fun W hW => run_execOp_load (by rfl) (by simp [Act.eval]) (Cha.run_load_u64 _ _ W (hW.2.cell 0))) ?_
  simp only [Act.put, List.getElem_toArray, List.getElem_cons_succ, List.getElem_cons_zero, List.setIfInBounds_toArray, List.set_cons_zero, List.set_cons_succ]
  refine p_one 10 (by kernel_rfl) (fun W hW H => ?_)
  refine op_callV (o := _) rfl (wanted_plain rfl) _ _ _ rfl 86 #[.pointer (some ⟨w.heap.size + 1 + 1 + 1, 0, none⟩)] #[.int .i64 0, .int .u64 ((n64 a : Nat) : Int), .int .u64 ((n64 r : Nat) : Int), .pointer (some ⟨w.heap.size + 1 + 1 + 1, 0, none⟩)] (by simp [Act.eval]) (by simp [Act.eval]) (Cha.enter_add _) ?_
  refine (Cha.add0_any (w.heap.size + 1 + 1 + 1) T0 a r W H.bt).mono ?_
  rintro e W1 ⟨rfl, b1, z1, g1⟩
  refine ⟨_, rfl, Next.mk (fun W => Blk W w.heap.size 150 (Cha.P3.cells ⟨a, b, c⟩) ∧ Blk W (w.heap.size + 1) 148 (Cha.cells2 r s)) (Cha.Tm w ⟨a, b, c⟩ r s T1) (fun _ h => h) ⟨(H.step (by rw [HT1.out] at b1; exact b1) g1 : Cha.Tm w ⟨a, b, c⟩ r s T1 W1).bp, (H.step (by rw [HT1.out] at b1; exact b1) g1 : Cha.Tm w ⟨a, b, c⟩ r s T1 W1).br⟩ (H.step (by rw [HT1.out] at b1; exact b1) g1) ?_⟩
  clear H b1 z1 g1 hW
  simp only [Act.put, List.getElem_toArray, List.getElem_cons_succ, List.getElem_cons_zero, List.setIfInBounds_toArray, List.set_cons_zero, List.set_cons_succ]
  refine (show ∀ n, wpAnyV _ _ _ _ _ _ n _ _ _ from fun n => v_done (by kernel_rfl) (fun W0 H => ?_) n) _
  have H := H.2
  go_wp2
  rw [rounds_succ]
  go_wp2
  refine v_start (S := PW) PR ((fun W => Blk W w.heap.size 150 (Cha.P3.cells ⟨a, b, c⟩) ∧ Blk W (w.heap.size + 1) 148 (Cha.cells2 r s)), Cha.Tm w ⟨a, b, c⟩ r s T1) (by kernel_rfl) ⟨⟨H.bp.drew, H.br.drew⟩, H.drew⟩ ?_
  clear H
  refine p_take 0 (o := _) rfl (by kernel_rfl) (by kernel_rfl) (by kernel_rfl) (wanted_plain rfl) (.func (.func 86) #[] #[.pointer (some ⟨w.heap.size + 1 + 1 + 1, 0, none⟩)]) (fun _ _ _ h => h) (fun W hW => run_move (by rfl) (by simp [Act.eval]) W) ?_
  simp only [Act.put, List.getElem_toArray, List.getElem_cons_succ, List.getElem_cons_zero, List.setIfInBounds_toArray, List.set_cons_zero, List.set_cons_succ]
  refine p_take 1 (o := _) rfl (by kernel_rfl) (by kernel_rfl) (by kernel_rfl) (wanted_plain rfl) (.int .i64 0) (fun _ _ _ h => h) (fun W hW => run_move (by rfl) (by simp [Act.eval]) W) ?_
  simp only [Act.put, List.getElem_toArray, List.getElem_cons_succ, List.getElem_cons_zero, List.setIfInBounds_toArray, List.set_cons_zero, List.set_cons_succ]
  refine p_take 2 (o := _) rfl (by kernel_rfl) (by kernel_rfl) (by kernel_rfl) (wanted_plain rfl) (.int .i64 1) (fun _ _ _ h => h) (fun W hW => run_move (by rfl) (by simp [Act.eval]) W) ?_
  simp only [Act.put, List.getElem_toArray, List.getElem_cons_succ, List.getElem_cons_zero, List.setIfInBounds_toArray, List.set_cons_zero, List.set_cons_succ]
  refine p_take 3 (o := _) rfl (by kernel_rfl) (by kernel_rfl) (by kernel_rfl) (wanted_plain rfl) (.int .i64 1) (fun _ _ _ h => h) (fun W hW => Cha.run_addI (by rfl) 0 1 1 (by simp [Act.eval]) (by simp [Act.eval]) (by decide)) ?_
  simp only [Act.put, List.getElem_toArray, List.getElem_cons_succ, List.getElem_cons_zero, List.setIfInBounds_toArray, List.set_cons_zero, List.set_cons_succ]
  refine p_take 4 (o := _) rfl (by kernel_rfl) (by kernel_rfl) (by kernel_rfl) (wanted_plain rfl) (.int .i64 0) (fun _ _ _ h => h) (fun W hW => run_move (by rfl) (by simp [Act.eval]) W) ?_
  simp only [Act.put, List.getElem_toArray, List.getElem_cons_succ, List.getElem_cons_zero, List.setIfInBounds_toArray, List.set_cons_zero, List.set_cons_succ]
  refine p_take 5 (o := _) rfl (by kernel_rfl) (by kernel_rfl) (by kernel_rfl) (wanted_plain rfl) (.pointer (some ⟨w.heap.size, 0, none⟩)) (fun _ _ _ h => h) (fun W hW => Cha.run_indexAddr (v := .pointer (some ⟨w.heap.size, 0, none⟩)) (u := .int .i64 0) (by rfl) (by simp [Act.eval]) (by simp [Act.eval]) (fun w => by kernel_rfl)) ?_
  simp only [Act.put, List.getElem_toArray, List.getElem_cons_succ, List.getElem_cons_zero, List.setIfInBounds_toArray, List.set_cons_zero, List.set_cons_succ]
  refine p_take 6 (o := _) rfl (by kernel_rfl) (by kernel_rfl) (by kernel_rfl) (wanted_plain rfl) (.int .u64 ((n64 a : Nat) : Int)) (fun _ _ _ h => h) (fun W hW => run_execOp_load (by rfl) (by simp [Act.eval]) (Cha.run_load_u64 _ _ W (hW.1.cell 0))) ?_
  simp only [Act.put, List.getElem_toArray, List.getElem_cons_succ, List.getElem_cons_zero, List.setIfInBounds_toArray, List.set_cons_zero, List.set_cons_succ]
  refine p_take 7 (o := _) rfl (by kernel_rfl) (by kernel_rfl) (by kernel_rfl) (wanted_plain rfl) (.int .i64 1) (fun _ _ _ h => h) (fun W hW => run_move (by rfl) (by simp [Act.eval]) W) ?_
  simp only [Act.put, List.getElem_toArray, List.getElem_cons_succ, List.getElem_cons_zero, List.setIfInBounds_toArray, List.set_cons_zero, List.set_cons_succ]
  refine p_take 8 (o := _) rfl (by kernel_rfl) (by kernel_rfl) (by kernel_rfl) (wanted_plain rfl) (.pointer (some ⟨w.heap.size + 1, 1, none⟩)) (fun _ _ _ h => h) (fun W hW => Cha.run_indexAddr (v := .pointer (some ⟨w.heap.size + 1, 0, none⟩)) (u := .int .i64 1) (by rfl) (by simp [Act.eval]) (by simp [Act.eval]) (fun w => by kernel_rfl)) ?_
  simp only [Act.put, List.getElem_toArray, List.getElem_cons_succ, List.getElem_cons_zero, List.setIfInBounds_toArray, List.set_cons_zero, List.set_cons_succ]
  refine p_take 9 (o := _) rfl (by kernel_rfl) (by kernel_rfl) (by kernel_rfl) (wanted_plain rfl) (.int .u64 ((n64 s : Nat) : Int)) (fun _ _ _ h => h) (fun W hW => run_execOp_load (by rfl) (by simp [Act.eval]) (Cha.run_load_u64 _ _ W (hW.2.cell 1))) ?_
  simp only [Act.put, List.getElem_toArray, List.getElem_cons_succ, List.getElem_cons_zero, List.setIfInBounds_toArray, List.set_cons_zero, List.set_cons_succ]
  refine p_one 10 (by kernel_rfl) (fun W hW H => ?_)
  refine op_callV (o := _) rfl (wanted_plain rfl) _ _ _ rfl 86 #[.pointer (some ⟨w.heap.size + 1 + 1 + 1, 0, none⟩)] #[.int .i64 1, .int .u64 ((n64 a : Nat) : Int), .int .u64 ((n64 s : Nat) : Int), .pointer (some ⟨w.heap.size + 1 + 1 + 1, 0, none⟩)] (by simp [Act.eval]) (by simp [Act.eval]) (Cha.enter_add _) ?_
  refine (Cha.add1_any (w.heap.size + 1 + 1 + 1) T1 a s W H.bt).mono ?_
  rintro e W1 ⟨rfl, b1, z1, g1⟩
  refine ⟨_, rfl, Next.mk (fun W => Blk W w.heap.size 150 (Cha.P3.cells ⟨a, b, c⟩) ∧ Blk W (w.heap.size + 1) 148 (Cha.cells2 r s)) (Cha.Tm w ⟨a, b, c⟩ r s T2) (fun _ h => h) ⟨(H.step (by rw [HT2.out] at b1; exact b1) g1 : Cha.Tm w ⟨a, b, c⟩ r s T2 W1).bp, (H.step (by rw [HT2.out] at b1; exact b1) g1 : Cha.Tm w ⟨a, b, c⟩ r s T2 W1).br⟩ (H.step (by rw [HT2.out] at b1; exact b1) g1) ?_⟩
  clear H b1 z1 g1 hW
  simp only [Act.put, List.getElem_toArray, List.getElem_cons_succ, List.getElem_cons_zero, List.setIfInBounds_toArray, List.set_cons_zero, List.set_cons_succ]
  refine (show ∀ n, wpAnyV _ _ _ _ _ _ n _ _ _ from fun n => v_done (by kernel_rfl) (fun W0 H => ?_) n) _
  have H := H.2
  go_wp2
  rw [rounds_succ]
  go_wp2
  rw [rounds_succ]
  go_wp2
  refine wp_loop_rounds 3 ?_
  rw [rounds_succ]
  go_wp2
  refine v_start (S := PW) PR ((fun W => Blk W w.heap.size 150 (Cha.P3.cells ⟨a, b, c⟩) ∧ Blk W (w.heap.size + 1) 148 (Cha.cells2 r s)), Cha.Tm w ⟨a, b, c⟩ r s T2) (by kernel_rfl) ⟨⟨H.bp.drew, H.br.drew⟩, H.drew⟩ ?_
  clear H
  refine p_take 0 (o := _) rfl (by kernel_rfl) (by kernel_rfl) (by kernel_rfl) (wanted_plain rfl) (.func (.func 86) #[] #[.pointer (some ⟨w.heap.size + 1 + 1 + 1, 0, none⟩)]) (fun _ _ _ h => h) (fun W hW => run_move (by rfl) (by simp [Act.eval]) W) ?_
  simp only [Act.put, List.getElem_toArray, List.getElem_cons_succ, List.getElem_cons_zero, List.setIfInBounds_toArray, List.set_cons_zero, List.set_cons_succ]
  refine p_take 1 (o := _) rfl (by kernel_rfl) (by kernel_rfl) (by kernel_rfl) (wanted_plain rfl) (.int .i64 1) (fun _ _ _ h => h) (fun W hW => run_move (by rfl) (by simp [Act.eval]) W) ?_
  simp only [Act.put, List.getElem_toArray, List.getElem_cons_succ, List.getElem_cons_zero, List.setIfInBounds_toArray, List.set_cons_zero, List.set_cons_succ]
  refine p_take 2 (o := _) rfl (by kernel_rfl) (by kernel_rfl) (by kernel_rfl) (wanted_plain rfl) (.int .i64 0) (fun _ _ _ h => h) (fun W hW => run_move (by rfl) (by simp [Act.eval]) W) ?_
  simp only [Act.put, List.getElem_toArray, List.getElem_cons_succ, List.getElem_cons_zero, List.setIfInBounds_toArray, List.set_cons_zero, List.set_cons_succ]
  refine p_take 3 (o := _) rfl (by kernel_rfl) (by kernel_rfl) (by kernel_rfl) (wanted_plain rfl) (.int .i64 1) (fun _ _ _ h => h) (fun W hW => Cha.run_addI (by rfl) 1 0 1 (by simp [Act.eval]) (by simp [Act.eval]) (by decide)) ?_
  simp only [Act.put, List.getElem_toArray, List.getElem_cons_succ, List.getElem_cons_zero, List.setIfInBounds_toArray, List.set_cons_zero, List.set_cons_succ]
  refine p_take 4 (o := _) rfl (by kernel_rfl) (by kernel_rfl) (by kernel_rfl) (wanted_plain rfl) (.int .i64 1) (fun _ _ _ h => h) (fun W hW => run_move (by rfl) (by simp [Act.eval]) W) ?_
  simp only [Act.put, List.getElem_toArray, List.getElem_cons_succ, List.getElem_cons_zero, List.setIfInBounds_toArray, List.set_cons_zero, List.set_cons_succ]
  refine p_take 5 (o := _) rfl (by kernel_rfl) (by kernel_rfl) (by kernel_rfl) (wanted_plain rfl) (.pointer (some ⟨w.heap.size, 1, none⟩)) (fun _ _ _ h => h) (fun W hW => Cha.run_indexAddr (v := .pointer (some ⟨w.heap.size, 0, none⟩)) (u := .int .i64 1) (by rfl) (by simp [Act.eval]) (by simp [Act.eval]) (fun w => by kernel_rfl)) ?_
  simp only [Act.put, List.getElem_toArray, List.getElem_cons_succ, List.getElem_cons_zero, List.setIfInBounds_toArray, List.set_cons_zero, List.set_cons_succ]
  refine p_take 6 (o := _) rfl (by kernel_rfl) (by kernel_rfl) (by kernel_rfl) (wanted_plain rfl) (.int .u64 ((n64 b : Nat) : Int)) (fun _ _ _ h => h) (fun W hW => run_execOp_load (by rfl) (by simp [Act.eval]) (Cha.run_load_u64 _ _ W (hW.1.cell 1))) ?_
  simp only [Act.put, List.getElem_toArray, List.getElem_cons_succ, List.getElem_cons_zero, List.setIfInBounds_toArray, List.set_cons_zero, List.set_cons_succ]
  refine p_take 7 (o := _) rfl (by kernel_rfl) (by kernel_rfl) (by kernel_rfl) (wanted_plain rfl) (.int .i64 0) (fun _ _ _ h => h) (fun W hW => run_move (by rfl) (by simp [Act.eval]) W) ?_
  simp only [Act.put, List.getElem_toArray, List.getElem_cons_succ, List.getElem_cons_zero, List.setIfInBounds_toArray, List.set_cons_zero, List.set_cons_succ]
  refine p_take 8 (o := _) rfl (by kernel_rfl) (by kernel_rfl) (by kernel_rfl) (wanted_plain rfl) (.pointer (some ⟨w.heap.size + 1, 0, none⟩)) (fun _ _ _ h => h) (fun W hW => Cha.run_indexAddr (v := .pointer (some ⟨w.heap.size + 1, 0, none⟩)) (u := .int .i64 0) (by rfl) (by simp [Act.eval]) (by simp [Act.eval]) (fun w => by kernel_rfl)) ?_
  simp only [Act.put, List.getElem_toArray, List.getElem_cons_succ, List.getElem_cons_zero, List.setIfInBounds_toArray, List.set_cons_zero, List.set_cons_succ]
  refine p_take 9 (o := _) rfl (by kernel_rfl) (by kernel_rfl) (by kernel_rfl) (wanted_plain rfl) (.int .u64 ((n64 r : Nat) : Int)) (fun _ _ _ h => h) (fun W hW => run_execOp_load (by rfl) (by simp [Act.eval]) (Cha.run_load_u64 _ _ W (hW.2.cell 0))) ?_
  simp only [Act.put, List.getElem_toArray, List.getElem_cons_succ, List.getElem_cons_zero, List.setIfInBounds_toArray, List.set_cons_zero, List.set_cons_succ]
  refine p_one 10 (by kernel_rfl) (fun W hW H => ?_)
  refine op_callV (o := _) rfl (wanted_plain rfl) _ _ _ rfl 86 #[.pointer (some ⟨w.heap.size + 1 + 1 + 1, 0, none⟩)] #[.int .i64 1, .int .u64 ((n64 b : Nat) : Int), .int .u64 ((n64 r : Nat) : Int), .pointer (some ⟨w.heap.size + 1 + 1 + 1, 0, none⟩)] (by simp [Act.eval]) (by simp [Act.eval]) (Cha.enter_add _) ?_
  refine (Cha.add1_any (w.heap.size + 1 + 1 + 1) T2 b r W H.bt).mono ?_
  rintro e W1 ⟨rfl, b1, z1, g1⟩
  refine ⟨_, rfl, Next.mk (fun W => Blk W w.heap.size 150 (Cha.P3.cells ⟨a, b, c⟩) ∧ Blk W (w.heap.size + 1) 148 (Cha.cells2 r s)) (Cha.Tm w ⟨a, b, c⟩ r s T3) (fun _ h => h) ⟨(H.step (by rw [HT3.out] at b1; exact b1) g1 : Cha.Tm w ⟨a, b, c⟩ r s T3 W1).bp, (H.step (by rw [HT3.out] at b1; exact b1) g1 : Cha.Tm w ⟨a, b, c⟩ r s T3 W1).br⟩ (H.step (by rw [HT3.out] at b1; exact b1) g1) ?_⟩
  clear H b1 z1 g1 hW
  simp only [Act.put, List.getElem_toArray, List.getElem_cons_succ, List.getElem_cons_zero, List.setIfInBounds_toArray, List.set_cons_zero, List.set_cons_succ]
  refine (show ∀ n, wpAnyV _ _ _ _ _ _ n _ _ _ from fun n => v_done (by kernel_rfl) (fun W0 H => ?_) n) _
  have H := H.2
  go_wp2
  rw [rounds_succ]
  go_wp2
  refine v_start (S := PW) PR ((fun W => Blk W w.heap.size 150 (Cha.P3.cells ⟨a, b, c⟩) ∧ Blk W (w.heap.size + 1) 148 (Cha.cells2 r s)), Cha.Tm w ⟨a, b, c⟩ r s T3) (by kernel_rfl) ⟨⟨H.bp.drew, H.br.drew⟩, H.drew⟩ ?_
  clear H
  refine p_take 0 (o := _) rfl (by kernel_rfl) (by kernel_rfl) (by kernel_rfl) (wanted_plain rfl) (.func (.func 86) #[] #[.pointer (some ⟨w.heap.size + 1 + 1 + 1, 0, none⟩)]) (fun _ _ _ h => h) (fun W hW => run_move (by rfl) (by simp [Act.eval]) W) ?_
  simp only [Act.put, List.getElem_toArray, List.getElem_cons_succ, List.getElem_cons_zero, List.setIfInBounds_toArray, List.set_cons_zero, List.set_cons_succ]
  refine p_take 1 (o := _) rfl (by kernel_rfl) (by kernel_rfl) (by kernel_rfl) (wanted_plain rfl) (.int .i64 1) (fun _ _ _ h => h) (fun W hW => run_move (by rfl) (by simp [Act.eval]) W) ?_
  simp only [Act.put, List.getElem_toArray, List.getElem_cons_succ, List.getElem_cons_zero, List.setIfInBounds_toArray, List.set_cons_zero, List.set_cons_succ]
  refine p_take 2 (o := _) rfl (by kernel_rfl) (by kernel_rfl) (by kernel_rfl) (wanted_plain rfl) (.int .i64 1) (fun _ _ _ h => h) (fun W hW => run_move (by rfl) (by simp [Act.eval]) W) ?_
  simp only [Act.put, List.getElem_toArray, List.getElem_cons_succ, List.getElem_cons_zero, List.setIfInBounds_toArray, List.set_cons_zero, List.set_cons_succ]
  refine p_take 3 (o := _) rfl (by kernel_rfl) (by kernel_rfl) (by kernel_rfl) (wanted_plain rfl) (.int .i64 2) (fun _ _ _ h => h) (fun W hW => Cha.run_addI (by rfl) 1 1 2 (by simp [Act.eval]) (by simp [Act.eval]) (by decide)) ?_
  simp only [Act.put, List.getElem_toArray, List.getElem_cons_succ, List.getElem_cons_zero, List.setIfInBounds_toArray, List.set_cons_zero, List.set_cons_succ]
  refine p_take 4 (o := _) rfl (by kernel_rfl) (by kernel_rfl) (by kernel_rfl) (wanted_plain rfl) (.int .i64 1) (fun _ _ _ h => h) (fun W hW => run_move (by rfl) (by simp [Act.eval]) W) ?_
  simp only [Act.put, List.getElem_toArray, List.getElem_cons_succ, List.getElem_cons_zero, List.setIfInBounds_toArray, List.set_cons_zero, List.set_cons_succ]
  refine p_take 5 (o := _) rfl (by kernel_rfl) (by kernel_rfl) (by kernel_rfl) (wanted_plain rfl) (.pointer (some ⟨w.heap.size, 1, none⟩)) (fun _ _ _ h => h) (fun W hW => Cha.run_indexAddr (v := .pointer (some ⟨w.heap.size, 0, none⟩)) (u := .int .i64 1) (by rfl) (by simp [Act.eval]) (by simp [Act.eval]) (fun w => by kernel_rfl)) ?_
  simp only [Act.put, List.getElem_toArray, List.getElem_cons_succ, List.getElem_cons_zero, List.setIfInBounds_toArray, List.set_cons_zero, List.set_cons_succ]
  refine p_take 6 (o := _) rfl (by kernel_rfl) (by kernel_rfl) (by kernel_rfl) (wanted_plain rfl) (.int .u64 ((n64 b : Nat) : Int)) (fun _ _ _ h => h) (fun W hW => run_execOp_load (by rfl) (by simp [Act.eval]) (Cha.run_load_u64 _ _ W (hW.1.cell 1))) ?_
  simp only [Act.put, List.getElem_toArray, List.getElem_cons_succ, List.getElem_cons_zero, List.setIfInBounds_toArray, List.set_cons_zero, List.set_cons_succ]
  refine p_take 7 (o := _) rfl (by kernel_rfl) (by kernel_rfl) (by kernel_rfl) (wanted_plain rfl) (.int .i64 1) (fun _ _ _ h => h) (fun W hW => run_move (by rfl) (by simp [Act.eval]) W) ?_
  simp only [Act.put, List.getElem_toArray, List.getElem_cons_succ, List.getElem_cons_zero, List.setIfInBounds_toArray, List.set_cons_zero, List.set_cons_succ]
  refine p_take 8 (o := _) rfl (by kernel_rfl) (by kernel_rfl) (by kernel_rfl) (wanted_plain rfl) (.pointer (some ⟨w.heap.size + 1, 1, none⟩)) (fun _ _ _ h => h) (fun W hW => Cha.run_indexAddr (v := .pointer (some ⟨w.heap.size + 1, 0, none⟩)) (u := .int .i64 1) (by rfl) (by simp [Act.eval]) (by simp [Act.eval]) (fun w => by kernel_rfl)) ?_
  simp only [Act.put, List.getElem_toArray, List.getElem_cons_succ, List.getElem_cons_zero, List.setIfInBounds_toArray, List.set_cons_zero, List.set_cons_succ]
  refine p_take 9 (o := _) rfl (by kernel_rfl) (by kernel_rfl) (by kernel_rfl) (wanted_plain rfl) (.int .u64 ((n64 s : Nat) : Int)) (fun _ _ _ h => h) (fun W hW => run_execOp_load (by rfl) (by simp [Act.eval]) (Cha.run_load_u64 _ _ W (hW.2.cell 1))) ?_
  simp only [Act.put, List.getElem_toArray, List.getElem_cons_succ, List.getElem_cons_zero, List.setIfInBounds_toArray, List.set_cons_zero, List.set_cons_succ]
  refine p_one 10 (by kernel_rfl) (fun W hW H => ?_)
  refine op_callV (o := _) rfl (wanted_plain rfl) _ _ _ rfl 86 #[.pointer (some ⟨w.heap.size + 1 + 1 + 1, 0, none⟩)] #[.int .i64 2, .int .u64 ((n64 b : Nat) : Int), .int .u64 ((n64 s : Nat) : Int), .pointer (some ⟨w.heap.size + 1 + 1 + 1, 0, none⟩)] (by simp [Act.eval]) (by simp [Act.eval]) (Cha.enter_add _) ?_
  refine (Cha.add2_any (w.heap.size + 1 + 1 + 1) T3 b s W H.bt).mono ?_
  rintro e W1 ⟨rfl, b1, z1, g1⟩
  refine ⟨_, rfl, Next.mk (fun W => Blk W w.heap.size 150 (Cha.P3.cells ⟨a, b, c⟩) ∧ Blk W (w.heap.size + 1) 148 (Cha.cells2 r s)) (Cha.Tm w ⟨a, b, c⟩ r s T4) (fun _ h => h) ⟨(H.step (by rw [HT4.out] at b1; exact b1) g1 : Cha.Tm w ⟨a, b, c⟩ r s T4 W1).bp, (H.step (by rw [HT4.out] at b1; exact b1) g1 : Cha.Tm w ⟨a, b, c⟩ r s T4 W1).br⟩ (H.step (by rw [HT4.out] at b1; exact b1) g1) ?_⟩
  clear H b1 z1 g1 hW
  simp only [Act.put, List.getElem_toArray, List.getElem_cons_succ, List.getElem_cons_zero, List.setIfInBounds_toArray, List.set_cons_zero, List.set_cons_succ]
  refine (show ∀ n, wpAnyV _ _ _ _ _ _ n _ _ _ from fun n => v_done (by kernel_rfl) (fun W0 H => ?_) n) _
  have H := H.2
  go_wp2
  rw [rounds_succ]
  go_wp2
  rw [rounds_succ]
  go_wp2
  refine wp_loop_rounds 3 ?_
  rw [rounds_succ]
  go_wp2
  refine v_start (S := PW) PR ((fun W => Blk W w.heap.size 150 (Cha.P3.cells ⟨a, b, c⟩) ∧ Blk W (w.heap.size + 1) 148 (Cha.cells2 r s)), Cha.Tm w ⟨a, b, c⟩ r s T4) (by kernel_rfl) ⟨⟨H.bp.drew, H.br.drew⟩, H.drew⟩ ?_
  clear H
  refine p_take 0 (o := _) rfl (by kernel_rfl) (by kernel_rfl) (by kernel_rfl) (wanted_plain rfl) (.func (.func 86) #[] #[.pointer (some ⟨w.heap.size + 1 + 1 + 1, 0, none⟩)]) (fun _ _ _ h => h) (fun W hW => run_move (by rfl) (by simp [Act.eval]) W) ?_
  simp only [Act.put, List.getElem_toArray, List.getElem_cons_succ, List.getElem_cons_zero, List.setIfInBounds_toArray, List.set_cons_zero, List.set_cons_succ]
  refine p_take 1 (o := _) rfl (by kernel_rfl) (by kernel_rfl) (by kernel_rfl) (wanted_plain rfl) (.int .i64 2) (fun _ _ _ h => h) (fun W hW => run_move (by rfl) (by simp [Act.eval]) W) ?_
  simp only [Act.put, List.getElem_toArray, List.getElem_cons_succ, List.getElem_cons_zero, List.setIfInBounds_toArray, List.set_cons_zero, List.set_cons_succ]
  refine p_take 2 (o := _) rfl (by kernel_rfl) (by kernel_rfl) (by kernel_rfl) (wanted_plain rfl) (.int .i64 0) (fun _ _ _ h => h) (fun W hW => run_move (by rfl) (by simp [Act.eval]) W) ?_
  simp only [Act.put, List.getElem_toArray, List.getElem_cons_succ, List.getElem_cons_zero, List.setIfInBounds_toArray, List.set_cons_zero, List.set_cons_succ]
  refine p_take 3 (o := _) rfl (by kernel_rfl) (by kernel_rfl) (by kernel_rfl) (wanted_plain rfl) (.int .i64 2) (fun _ _ _ h => h) (fun W hW => Cha.run_addI (by rfl) 2 0 2 (by simp [Act.eval]) (by simp [Act.eval]) (by decide)) ?_
  simp only [Act.put, List.getElem_toArray, List.getElem_cons_succ, List.getElem_cons_zero, List.setIfInBounds_toArray, List.set_cons_zero, List.set_cons_succ]
  refine p_take 4 (o := _) rfl (by kernel_rfl) (by kernel_rfl) (by kernel_rfl) (wanted_plain rfl) (.int .i64 2) (fun _ _ _ h => h) (fun W hW => run_move (by rfl) (by simp [Act.eval]) W) ?_
  simp only [Act.put, List.getElem_toArray, List.getElem_cons_succ, List.getElem_cons_zero, List.setIfInBounds_toArray, List.set_cons_zero, List.set_cons_succ]
  refine p_take 5 (o := _) rfl (by kernel_rfl) (by kernel_rfl) (by kernel_rfl) (wanted_plain rfl) (.pointer (some ⟨w.heap.size, 2, none⟩)) (fun _ _ _ h => h) (fun W hW => Cha.run_indexAddr (v := .pointer (some ⟨w.heap.size, 0, none⟩)) (u := .int .i64 2) (by rfl) (by simp [Act.eval]) (by simp [Act.eval]) (fun w => by kernel_rfl)) ?_
  simp only [Act.put, List.getElem_toArray, List.getElem_cons_succ, List.getElem_cons_zero, List.setIfInBounds_toArray, List.set_cons_zero, List.set_cons_succ]
  refine p_take 6 (o := _) rfl (by kernel_rfl) (by kernel_rfl) (by kernel_rfl) (wanted_plain rfl) (.int .u64 ((n64 c : Nat) : Int)) (fun _ _ _ h => h) (fun W hW => run_execOp_load (by rfl) (by simp [Act.eval]) (Cha.run_load_u64 _ _ W (hW.1.cell 2))) ?_
  simp only [Act.put, List.getElem_toArray, List.getElem_cons_succ, List.getElem_cons_zero, List.setIfInBounds_toArray, List.set_cons_zero, List.set_cons_succ]
  refine p_take 7 (o := _) rfl (by kernel_rfl) (by kernel_rfl) (by kernel_rfl) (wanted_plain rfl) (.int .i64 0) (fun _ _ _ h => h) (fun W hW => run_move (by rfl) (by simp [Act.eval]) W) ?_
  simp only [Act.put, List.getElem_toArray, List.getElem_cons_succ, List.getElem_cons_zero, List.setIfInBounds_toArray, List.set_cons_zero, List.set_cons_succ]
  refine p_take 8 (o := _) rfl (by kernel_rfl) (by kernel_rfl) (by kernel_rfl) (wanted_plain rfl) (.pointer (some ⟨w.heap.size + 1, 0, none⟩)) (fun _ _ _ h => h) (fun W hW => Cha.run_indexAddr (v := .pointer (some ⟨w.heap.size + 1, 0, none⟩)) (u := .int .i64 0) (by rfl) (by simp [Act.eval]) (by simp [Act.eval]) (fun w => by kernel_rfl)) ?_
  simp only [Act.put, List.getElem_toArray, List.getElem_cons_succ, List.getElem_cons_zero, List.setIfInBounds_toArray, List.set_cons_zero, List.set_cons_succ]
  refine p_take 9 (o := _) rfl (by kernel_rfl) (by kernel_rfl) (by kernel_rfl) (wanted_plain rfl) (.int .u64 ((n64 r : Nat) : Int)) (fun _ _ _ h => h) (fun W hW => run_execOp_load (by rfl) (by simp [Act.eval]) (Cha.run_load_u64 _ _ W (hW.2.cell 0))) ?_
  simp only [Act.put, List.getElem_toArray, List.getElem_cons_succ, List.getElem_cons_zero, List.setIfInBounds_toArray, List.set_cons_zero, List.set_cons_succ]
  refine p_one 10 (by kernel_rfl) (fun W hW H => ?_)
  refine op_callV (o := _) rfl (wanted_plain rfl) _ _ _ rfl 86 #[.pointer (some ⟨w.heap.size + 1 + 1 + 1, 0, none⟩)] #[.int .i64 2, .int .u64 ((n64 c : Nat) : Int), .int .u64 ((n64 r : Nat) : Int), .pointer (some ⟨w.heap.size + 1 + 1 + 1, 0, none⟩)] (by simp [Act.eval]) (by simp [Act.eval]) (Cha.enter_add _) ?_
  refine (Cha.add2_any (w.heap.size + 1 + 1 + 1) T4 c r W H.bt).mono ?_
  rintro e W1 ⟨rfl, b1, z1, g1⟩
  refine ⟨_, rfl, Next.mk (fun W => Blk W w.heap.size 150 (Cha.P3.cells ⟨a, b, c⟩) ∧ Blk W (w.heap.size + 1) 148 (Cha.cells2 r s)) (Cha.Tm w ⟨a, b, c⟩ r s T5) (fun _ h => h) ⟨(H.step (by rw [HT5.out] at b1; exact b1) g1 : Cha.Tm w ⟨a, b, c⟩ r s T5 W1).bp, (H.step (by rw [HT5.out] at b1; exact b1) g1 : Cha.Tm w ⟨a, b, c⟩ r s T5 W1).br⟩ (H.step (by rw [HT5.out] at b1; exact b1) g1) ?_⟩
  clear H b1 z1 g1 hW
  simp only [Act.put, List.getElem_toArray, List.getElem_cons_succ, List.getElem_cons_zero, List.setIfInBounds_toArray, List.set_cons_zero, List.set_cons_succ]
  refine (show ∀ n, wpAnyV _ _ _ _ _ _ n _ _ _ from fun n => v_done (by kernel_rfl) (fun W0 H => ?_) n) _
  have H := H.2
  go_wp2
  rw [rounds_succ]
  go_wp2
  have t3 := H.bt.cell 3
  have u3 := H.bt.frozen 3
  have p2 := H.bp.cell 2
  have r1 := H.br.cell 1
  simp only [Cha.P3.cells, Cha.P4.cells, Cha.cells2, List.getElem?_toArray, List.getElem?_cons_zero, List.getElem?_cons_succ] at t3 p2 r1
  obtain ⟨T6, HT6⟩ : ∃ t, Hd (T5.more (c * s) = t) := ⟨_, ⟨rfl⟩⟩
  have b6 : Blk (W0.setCell ⟨w.heap.size + 1 + 1 + 1, 3, none⟩ (.int .u64 ((n64 (T5.d + c * s) : Nat) : Int))) (w.heap.size + 1 + 1 + 1) 159 T6.cells := by rw [← HT6.out]; exact H.bt.set_ 3 _
  have H6 := H.step b6 (grew_setCell (World.grownBy.refl W0 (some (w.heap.size + 1 + 1 + 1))) 3 _)
  have H6 := H6.drew
  clear H b6
  go_region
  go_wp2
  clear t3 u3 p2 r1
  rw [rounds_succ]
  refine wp_name (Cha.Tm w ⟨a, b, c⟩ r s T6) H6 ?_
  clear H6
  intro W0 H
  have t0 := H.bt.cell 0
  have t1 := H.bt.cell 1
  have t2 := H.bt.cell 2
  have t3 := H.bt.cell 3
  simp only [Cha.P4.cells, List.getElem?_toArray, List.getElem?_cons_zero, List.getElem?_cons_succ] at t0 t1 t2 t3
  go_wp2
  rw [rounds_succ]
  obtain ⟨z, Hz⟩ : ∃ z, Hd (W0.heap.size = z) := ⟨_, ⟨rfl⟩⟩
  have hz : w.heap.size + 1 + 1 + 1 < z := by rw [← Hz.out]; exact H.bt.lt
  obtain ⟨q1, Hq1⟩ : ∃ q, Hd ((⟨T6.a, T6.b, T6.c &&& 3⟩ : Cha.P3) = q) := ⟨_, ⟨rfl⟩⟩
  go_wp2_with (first
    | (refine wpl_build rfl 150 _ rfl [(0, .int .u64 ((n64 T6.a : Nat) : Int)), (1, .int .u64 ((n64 T6.b : Nat) : Int)), (2, .int .u64 ((n64 (T6.c &&& 3) : Nat) : Int))] rfl _ (Cha.built3 _ _ _) ?_; rw [Hq1.out])
    | (refine wpl_alloc rfl 150 rfl _ Cha.zero3 ?_; rw [Hz.out])
    | (refine Cha.wpl_store3 rfl _ _ rfl z q1 rfl rfl 150 _ (Blk.nu Hz.out.symm) rfl ?_; refine wpl_name (fun W => Cha.Tm w ⟨a, b, c⟩ r s T6 W ∧ Blk W z 150 q1.cells) ⟨H.next (below_setRow ((Below.refl _ _).alloc (Nat.le_refl _) _) (Nat.le_of_eq Hz.out) _), (Blk.nu Hz.out.symm).setRow _⟩ ?_; clear H t0 t1 t2 t3; rintro W1 ⟨H, bq⟩))
  refine p_start (fun W => Cha.Tm w ⟨a, b, c⟩ r s T6 W ∧ Blk W z 150 q1.cells) (by kernel_rfl) ⟨H.drew, bq.drew⟩ ?_
  clear H bq
  simp only [Act.put, List.getElem_toArray, List.getElem_cons_succ, List.getElem_cons_zero, List.setIfInBounds_toArray, List.set_cons_zero, List.set_cons_succ]
  refine p_take 0 (o := _) rfl (by kernel_rfl) (by kernel_rfl) (by kernel_rfl) (wanted_plain rfl) (.pointer (some ⟨w.heap.size + 1 + 1 + 1, 2, none⟩)) (fun _ _ _ h => h) (fun W hW => Cha.run_indexAddr (v := .pointer (some ⟨w.heap.size + 1 + 1 + 1, 0, none⟩)) (u := .int .i64 2) (by rfl) (by simp [Act.eval]) (by simp [Act.eval]) (fun w => by kernel_rfl)) ?_
  simp only [Act.put, List.getElem_toArray, List.getElem_cons_succ, List.getElem_cons_zero, List.setIfInBounds_toArray, List.set_cons_zero, List.set_cons_succ]
  refine p_take 1 (o := _) rfl (by kernel_rfl) (by kernel_rfl) (by kernel_rfl) (wanted_plain rfl) (.int .u64 ((n64 T6.c : Nat) : Int)) (fun _ _ _ h => h) (fun W hW => run_execOp_load (by rfl) (by simp [Act.eval]) (Cha.run_load_u64 _ _ W (hW.1.bt.cell 2))) ?_
  simp only [Act.put, List.getElem_toArray, List.getElem_cons_succ, List.getElem_cons_zero, List.setIfInBounds_toArray, List.set_cons_zero, List.set_cons_succ]
  refine p_take 2 (o := _) rfl (by kernel_rfl) (by kernel_rfl) (by kernel_rfl) (wanted_plain rfl) (.int .u64 ((n64 (T6.c &&& ~~~3) : Nat) : Int)) (fun _ _ _ h => h) (fun W hW => Cha.run_andNot64 (by rfl) T6.c (by simp [Act.eval]) (by simp [Act.eval])) ?_
  simp only [Act.put, List.getElem_toArray, List.getElem_cons_succ, List.getElem_cons_zero, List.setIfInBounds_toArray, List.set_cons_zero, List.set_cons_succ]
  refine p_take 3 (o := _) rfl (by kernel_rfl) (by kernel_rfl) (by kernel_rfl) (wanted_plain rfl) (.pointer (some ⟨w.heap.size + 1 + 1 + 1, 3, none⟩)) (fun _ _ _ h => h) (fun W hW => Cha.run_indexAddr (v := .pointer (some ⟨w.heap.size + 1 + 1 + 1, 0, none⟩)) (u := .int .i64 3) (by rfl) (by simp [Act.eval]) (by simp [Act.eval]) (fun w => by kernel_rfl)) ?_
  simp only [Act.put, List.getElem_toArray, List.getElem_cons_succ, List.getElem_cons_zero, List.setIfInBounds_toArray, List.set_cons_zero, List.set_cons_succ]
  refine p_take 4 (o := _) rfl (by kernel_rfl) (by kernel_rfl) (by kernel_rfl) (wanted_plain rfl) (.int .u64 ((n64 T6.d : Nat) : Int)) (fun _ _ _ h => h) (fun W hW => run_execOp_load (by rfl) (by simp [Act.eval]) (Cha.run_load_u64 _ _ W (hW.1.bt.cell 3))) ?_
  simp only [Act.put, List.getElem_toArray, List.getElem_cons_succ, List.getElem_cons_zero, List.setIfInBounds_toArray, List.set_cons_zero, List.set_cons_succ]
  refine p_take 5 (o := _) rfl (by kernel_rfl) (by kernel_rfl) (by kernel_rfl) (wanted_plain rfl) (.int .u64 ((n64 (T6.c &&& ~~~3) : Nat) : Int)) (fun _ _ _ h => h) (fun W hW => run_assign (by rfl) (by simp [Act.eval]) W) ?_
  simp only [Act.put, List.getElem_toArray, List.getElem_cons_succ, List.getElem_cons_zero, List.setIfInBounds_toArray, List.set_cons_zero, List.set_cons_succ]
  refine p_take 6 (o := _) rfl (by kernel_rfl) (by kernel_rfl) (by kernel_rfl) (wanted_plain rfl) (.int .u64 ((n64 T6.d : Nat) : Int)) (fun _ _ _ h => h) (fun W hW => run_assign (by rfl) (by simp [Act.eval]) W) ?_
  simp only [Act.put, List.getElem_toArray, List.getElem_cons_succ, List.getElem_cons_zero, List.setIfInBounds_toArray, List.set_cons_zero, List.set_cons_succ]
  refine (show ∀ n, wpAnyV _ _ _ _ _ _ n _ _ _ from fun n => p_done (by kernel_rfl) (fun W1 H => ?_) n) _
  obtain ⟨H, bq⟩ := H
  obtain ⟨lo, Hlo⟩ : ∃ q, Hd (T6.c &&& ~~~3 = q) := ⟨_, ⟨rfl⟩⟩
  obtain ⟨hi, Hhi⟩ : ∃ q, Hd (T6.d = q) := ⟨_, ⟨rfl⟩⟩
  obtain ⟨l2, Hl2⟩ : ∃ q, Hd (lo >>> 2 ||| hi <<< 62 = q) := ⟨_, ⟨rfl⟩⟩
  obtain ⟨h2, Hh2⟩ : ∃ q, Hd (hi >>> 2 = q) := ⟨_, ⟨rfl⟩⟩
  obtain ⟨q2, Hq2⟩ : ∃ q, Hd (q1.plus lo hi 0 = q) := ⟨_, ⟨rfl⟩⟩
  obtain ⟨q3, Hq3⟩ : ∃ q, Hd (q2.plus l2 h2 0 = q) := ⟨_, ⟨rfl⟩⟩
  have Hfin := hd (show Cha.P3.times ⟨a, b, c⟩ r s = q3 by
    rw [← Hq3.out, ← Hq2.out, ← Hq1.out, ← Hl2.out, ← Hh2.out, ← Hlo.out, ← Hhi.out, ← HT6.out, ← HT5.out, ← HT4.out, ← HT3.out, ← HT2.out, ← HT1.out, ← HT0.out]
    rfl)
  go_wp2_with (first
    | (refine Cha.wpl_store3 rfl _ _ rfl (w.heap.size + 1 + 1) q3 rfl rfl 150 _ bo rfl ?_)
    | (go_at_call 80; rw [Hl2.out, Hh2.out]; refine (Cha.plus_any q2 l2 h2 0 _).mono ?_; rintro e W4 ⟨rfl, hB4⟩; rw [Hq3.out]; have bo := bo.below hB4 bo.lt; have hB := hB.trans (hB4.mono hB.size); clear hB4)
    | (refine Cha.wpl_load3 rfl _ rfl z q2 rfl 150 bq2 ?_)
    | (refine Cha.wpl_store3 rfl _ _ rfl z q2 rfl rfl 150 _ bq1 rfl ?_; refine wpl_name (fun W => Blk W (w.heap.size + 1 + 1) 150 (Cha.P3.cells ⟨0, 0, 0⟩) ∧ Below w.heap.size w W ∧ Blk W z 150 q2.cells) ⟨H.bo.farRow (by omega) _, below_setRow H.old (by omega) _, bq1.setRow _⟩ ?_; clear H bq1; rintro W3 ⟨bo, hB, bq2⟩)
    | (go_at_call 80; rw [Hlo.out, Hhi.out]; refine (Cha.plus_any q1 lo hi 0 _).mono ?_; rintro e W2 ⟨rfl, hB2⟩; rw [Hq2.out]; have H := H.next hB2; have bq1 := bq.below hB2 bq.lt; clear hB2 bq)
    | (refine Cha.wpl_load3 rfl _ rfl z q1 rfl 150 bq ?_))
  exact Cha.ret3 rfl (w.heap.size + 1 + 1) rfl 150 q3 (bo.setRow _) rfl ⟨by rw [Hfin.out]; rfl, below_setRow hB (by omega) _⟩
end Go.Proofs.YthigbggacgiamaaDoor
