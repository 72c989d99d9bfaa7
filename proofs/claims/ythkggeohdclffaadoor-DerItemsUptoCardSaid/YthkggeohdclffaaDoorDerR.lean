/-
  The walk of the reference's Same, over like items.
-/
import Derived.Test.YthkggeohdclffaaDoorDerO
import Derived.BigQuiet
import Derived.Deep.QuietTactic
set_option linter.unusedVariables false
set_option linter.unusedSimpArgs false
set_option maxRecDepth 100000
namespace Go.Proofs.YthkggeohdclffaaDoor
open Go.RowKit
namespace Der
theorem fldI2 (ad : Addr) (w : World) : (Instr.fieldAt 25 (.pointer (some ad)) 2).run Tryd.prog w = .ok (.pointer (some (ad.add 2))) w := by kernel_rfl
theorem fldI3 (ad : Addr) (w : World) : (Instr.fieldAt 25 (.pointer (some ad)) 3).run Tryd.prog w = .ok (.pointer (some (ad.add 3))) w := by kernel_rfl
theorem naN : ((Tryd.prog.underlying 3).map isAggD) = some false := by kernel_rfl
theorem wpQuiet_run {P : Program} {ops : Array Oper} {Q : Act → Prop} {a : Act} {o : Oper} {rest : List Oper} {w : World} (hw : Region.wanted o (yielded ops a.tmps) = true) (v : Value) (hrun : ∀ n, (execOp a.eval o).run P (w.drewN n) = .ok (.value v) (w.drewN n))
    (h : wpQuiet P ops (fun w' => ∃ n, w' = w.drewN n) Q rest (a.put o.dst v)) : wpQuiet P ops (fun w' => ∃ n, w' = w.drewN n) Q (o :: rest) a := by
  unfold wpQuiet
  rw [if_pos hw]
  exact ⟨v, fun w1 ⟨n, e⟩ => by subst e; unfold Oper.quietAt; rw [hrun]; exact ⟨rfl, rfl⟩, h⟩
theorem drewB {w : World} {B : Nat} {A : Option Addr} {n : Nat} {l : List UInt8} (h : ReadsB w B A n l) (k : Nat) : ReadsB (w.drewN k) B A n l := ⟨h.len, h.is.drewN k⟩
theorem neqSame {P : Program} {w : World} {ρ : Operand → Value} {o : Oper} {x y : Operand} {t rt : TypeId} (ho : o.op = .binOp .neq t x y rt) (k : IntKind) (i : Int) (hx : ρ x = .int k i) (hy : ρ y = .int k i) : (execOp ρ o).run P w = .ok (.value (.bool false)) w := by
  unfold execOp
  simp only [ho, hx, hy]
  simp [go_sem]
/-- What is read of a slice of items. -/
structure ReadsI (w : World) (A : Option Addr) (n : Nat) (ys : List X) : Prop where
  len : ys.length = n
  is : ∀ i (h : i < n) (hy : i < ys.length), ∃ ad D m d, A = some ad ∧ ad.block < w.heap.size ∧ w.cell? ((ad.add (i * 4)).add 0) = some (.int .u8 ((n8 ys[i].1.tag : Nat) : Int)) ∧ w.cell? ((ad.add (i * 4)).add 1) = some (.slice D m d) ∧
    w.cell? ((ad.add (i * 4)).add 2) = some (.int .i64 ys[i].1.at_) ∧ w.cell? ((ad.add (i * 4)).add 3) = some (.int .i64 (ys[i].1.len : Int)) ∧ ReadsB w w.heap.size D m ys[i].1.body
theorem OwnI.reads {w : World} {B n c : Nat} {A : Option Addr} {ys : List X} (h : OwnI w B (.slice A n c) ys) (hn : ys.length = n) : ReadsI w A n ys := by
  refine ⟨hn, fun i hi hy => ?_⟩
  rcases h.own.2 with ⟨_, h0⟩ | ⟨g, cap, cur, e, hb, hg, _⟩
  · omega
  · injection e with e1 e2 e3
    subst e1 e2 e3
    have hc := h.own.cells (g := g) rfl
    have hb2 := h.bodies _ (List.getElem_mem hy)
    obtain ⟨D, d, e⟩ := OwnB.sliceX hb2
    refine ⟨_, D, (ys[i]'hy).1.body.length, d, rfl, (h.lt g rfl).2, ?_, ?_, ?_, ?_, ?_⟩
    · rw [add_of_add]; exact hc _ _ (by rw [flatI_at ys i hy 0 (by omega)]; rfl)
    · rw [add_of_add, ← e]; exact hc _ _ (by rw [flatI_at ys i hy 1 (by omega)]; rfl)
    · rw [add_of_add]; exact hc _ _ (by rw [flatI_at ys i hy 2 (by omega)]; rfl)
    · rw [add_of_add]; exact hc _ _ (by rw [flatI_at ys i hy 3 (by omega)]; rfl)
    · rw [e] at hb2; exact hb2.reads_any.2
end Der
set_option maxHeartbeats 8000000 in
set_option maxRecDepth 100000 in
theorem same_any (A : Option Addr) (N c1 : Nat) (B : Option Addr) (c2 : Nat) (ys zs : List Der.X) (hs : ys.map (·.1) = zs.map (·.1)) (hN : N ≤ 140737488355328) (w : World) (h1 : Der.ReadsI w A N ys) (h2 : Der.ReadsI w B N zs) :
    Calls Tryd.prog 11 #[.slice A N c1, .slice B N c2] w fun e w' => e = .returned (.bool true) ∧ Below w.heap.size w w' := by
  have HN := hd hN
  clear hN
  go_enter Tryd.func11, Tryd.ntmps11
  go_wp2
  go_loopw [5] (fun s5 wr => ∃ k : Nat, k ≤ N ∧ s5 = .int .i64 (k : Int) ∧ ∃ d, wr = w.drewN d) (fun s5 _ => N - (intOf s5).toNat)
  case atStart => exact ⟨0, Nat.zero_le _, rfl, 0, rfl⟩
  case round =>
    obtain ⟨k, hk0, rfl, dn, rfl⟩ := hrel
    by_cases hk : k < N
    · have t1 : (k : Int) < (N : Int) := by omega
      have wk : IntKind.i64.wrap ((k : Int) + 1) = (k : Int) + 1 := IntWalk.i64_in _ (by have := HN.out; omega)
      obtain ⟨x1, D1, m1, d1, rfl, _, h10, h11, h12, h13, r1⟩ := h1.is k hk (by rw [h1.len]; exact hk)
      obtain ⟨x2, D2, m2, d2, rfl, _, h20, h21, h22, h23, r2⟩ := h2.is k hk (by rw [h2.len]; exact hk)
      have hz := congrArg (fun l : List Der.Item => l[k]?) hs
      simp only [List.getElem?_map, List.getElem?_eq_getElem (show k < ys.length by rw [h1.len]; exact hk), List.getElem?_eq_getElem (show k < zs.length by rw [h2.len]; exact hk), Option.map_some, Option.some.injEq] at hz
      rw [← hz] at h20 h22 h23 r2
      obtain ⟨⟨tg, bd, iat, iln, ie⟩, HI⟩ : ∃ y, Hd ((ys[k]'(by rw [h1.len]; exact hk)).1 = y) := ⟨_, ⟨rfl⟩⟩
      rw [HI.out] at h10 h12 h13 r1 h20 h22 h23 r2
      clear hz
      dsimp only at h10 h12 h13 r1 h20 h22 h23 r2
      go_upto_region 6 with fail
      refine wp_region_quiet_lit (by kernel_rfl) (by kernel_rfl) ?_
      refine Der.wpQuiet_run (wanted_plain rfl) (.slice (some x1) N c1) (fun n => run_move (by rfl) (by simp [Act.eval]) _) ?_
      simp only [Act.put, List.getElem_toArray, List.getElem_cons_succ, List.getElem_cons_zero, List.setIfInBounds_toArray, List.set_cons_zero, List.set_cons_succ]
      refine Der.wpQuiet_run (wanted_plain rfl) (.int .i64 (k : Int)) (fun n => run_move (by rfl) (by simp [Act.eval]) _) ?_
      simp only [Act.put, List.getElem_toArray, List.getElem_cons_succ, List.getElem_cons_zero, List.setIfInBounds_toArray, List.set_cons_zero, List.set_cons_succ]
      refine Der.wpQuiet_run (wanted_plain rfl) (.pointer (some (x1.add (k * 4)))) (fun n => Der.index (by rfl) und_items Der.szI x1 N c1 k (by simp [Act.eval]) (by simp [Act.eval]) hk) ?_
      simp only [Act.put, List.getElem_toArray, List.getElem_cons_succ, List.getElem_cons_zero, List.setIfInBounds_toArray, List.set_cons_zero, List.set_cons_succ]
      refine Der.wpQuiet_run (wanted_plain rfl) (.pointer (some ((x1.add (k * 4)).add 0))) (fun n => Der.fieldA (by rfl) (v := .pointer (some (x1.add (k * 4)))) (by simp [Act.eval]) (Der.fldI0 _)) ?_
      simp only [Act.put, List.getElem_toArray, List.getElem_cons_succ, List.getElem_cons_zero, List.setIfInBounds_toArray, List.set_cons_zero, List.set_cons_succ]
      refine Der.wpQuiet_run (wanted_plain rfl) (.int .u8 ((n8 tg : Nat) : Int)) (fun n => Der.ld Der.na8 (by rfl) ((x1.add (k * 4)).add 0) _ (by simp [Act.eval]) h10) ?_
      simp only [Act.put, List.getElem_toArray, List.getElem_cons_succ, List.getElem_cons_zero, List.setIfInBounds_toArray, List.set_cons_zero, List.set_cons_succ]
      refine Der.wpQuiet_run (wanted_plain rfl) (.slice (some x2) N c2) (fun n => run_move (by rfl) (by simp [Act.eval]) _) ?_
      simp only [Act.put, List.getElem_toArray, List.getElem_cons_succ, List.getElem_cons_zero, List.setIfInBounds_toArray, List.set_cons_zero, List.set_cons_succ]
      refine Der.wpQuiet_run (wanted_plain rfl) (.int .i64 (k : Int)) (fun n => run_move (by rfl) (by simp [Act.eval]) _) ?_
      simp only [Act.put, List.getElem_toArray, List.getElem_cons_succ, List.getElem_cons_zero, List.setIfInBounds_toArray, List.set_cons_zero, List.set_cons_succ]
      refine Der.wpQuiet_run (wanted_plain rfl) (.pointer (some (x2.add (k * 4)))) (fun n => Der.index (by rfl) und_items Der.szI x2 N c2 k (by simp [Act.eval]) (by simp [Act.eval]) hk) ?_
      simp only [Act.put, List.getElem_toArray, List.getElem_cons_succ, List.getElem_cons_zero, List.setIfInBounds_toArray, List.set_cons_zero, List.set_cons_succ]
      refine Der.wpQuiet_run (wanted_plain rfl) (.pointer (some ((x2.add (k * 4)).add 0))) (fun n => Der.fieldA (by rfl) (v := .pointer (some (x2.add (k * 4)))) (by simp [Act.eval]) (Der.fldI0 _)) ?_
      simp only [Act.put, List.getElem_toArray, List.getElem_cons_succ, List.getElem_cons_zero, List.setIfInBounds_toArray, List.set_cons_zero, List.set_cons_succ]
      refine Der.wpQuiet_run (wanted_plain rfl) (.int .u8 ((n8 tg : Nat) : Int)) (fun n => Der.ld Der.na8 (by rfl) ((x2.add (k * 4)).add 0) _ (by simp [Act.eval]) h20) ?_
      simp only [Act.put, List.getElem_toArray, List.getElem_cons_succ, List.getElem_cons_zero, List.setIfInBounds_toArray, List.set_cons_zero, List.set_cons_succ]
      refine Der.wpQuiet_run (wanted_plain rfl) (.bool false) (fun n => Der.neqSame (by rfl) .u8 ((n8 tg : Nat) : Int) (by simp [Act.eval]) (by simp [Act.eval])) ?_
      simp only [Act.put, List.getElem_toArray, List.getElem_cons_succ, List.getElem_cons_zero, List.setIfInBounds_toArray, List.set_cons_zero, List.set_cons_succ]
      refine Der.wpQuiet_run (wanted_plain rfl) (.bool false) (fun n => run_move (by rfl) (by simp [Act.eval]) _) ?_
      simp only [Act.put, List.getElem_toArray, List.getElem_cons_succ, List.getElem_cons_zero, List.setIfInBounds_toArray, List.set_cons_zero, List.set_cons_succ]
      refine Der.wpQuiet_run (by simp [Region.wanted, yielded]) (.slice (some x1) N c1) (fun n => run_move (by rfl) (by simp [Act.eval]) _) ?_
      simp only [Act.put, List.getElem_toArray, List.getElem_cons_succ, List.getElem_cons_zero, List.setIfInBounds_toArray, List.set_cons_zero, List.set_cons_succ]
      refine Der.wpQuiet_run (by simp [Region.wanted, yielded]) (.int .i64 (k : Int)) (fun n => run_move (by rfl) (by simp [Act.eval]) _) ?_
      simp only [Act.put, List.getElem_toArray, List.getElem_cons_succ, List.getElem_cons_zero, List.setIfInBounds_toArray, List.set_cons_zero, List.set_cons_succ]
      refine Der.wpQuiet_run (by simp [Region.wanted, yielded]) (.pointer (some (x1.add (k * 4)))) (fun n => Der.index (by rfl) und_items Der.szI x1 N c1 k (by simp [Act.eval]) (by simp [Act.eval]) hk) ?_
      simp only [Act.put, List.getElem_toArray, List.getElem_cons_succ, List.getElem_cons_zero, List.setIfInBounds_toArray, List.set_cons_zero, List.set_cons_succ]
      refine Der.wpQuiet_run (by simp [Region.wanted, yielded]) (.pointer (some ((x1.add (k * 4)).add 1))) (fun n => Der.fieldA (by rfl) (v := .pointer (some (x1.add (k * 4)))) (by simp [Act.eval]) (Der.fldI1 _)) ?_
      simp only [Act.put, List.getElem_toArray, List.getElem_cons_succ, List.getElem_cons_zero, List.setIfInBounds_toArray, List.set_cons_zero, List.set_cons_succ]
      refine Der.wpQuiet_run (by simp [Region.wanted, yielded]) (.slice D1 m1 d1) (fun n => Der.ld Der.naS (by rfl) ((x1.add (k * 4)).add 1) _ (by simp [Act.eval]) h11) ?_
      simp only [Act.put, List.getElem_toArray, List.getElem_cons_succ, List.getElem_cons_zero, List.setIfInBounds_toArray, List.set_cons_zero, List.set_cons_succ]
      refine Der.wpQuiet_run (by simp [Region.wanted, yielded]) (.string (str bd)) (fun n => run_toStr (by rfl) Tryd.underlying22 Tryd.underlying5 Tryd.underlying9 _ D1 m1 d1 bd (by simp [Act.eval]) (Der.drewB (Der.drewB r1 dn) n)) ?_
      simp only [Act.put, List.getElem_toArray, List.getElem_cons_succ, List.getElem_cons_zero, List.setIfInBounds_toArray, List.set_cons_zero, List.set_cons_succ]
      refine Der.wpQuiet_run (by simp [Region.wanted, yielded]) (.slice (some x2) N c2) (fun n => run_move (by rfl) (by simp [Act.eval]) _) ?_
      simp only [Act.put, List.getElem_toArray, List.getElem_cons_succ, List.getElem_cons_zero, List.setIfInBounds_toArray, List.set_cons_zero, List.set_cons_succ]
      refine Der.wpQuiet_run (by simp [Region.wanted, yielded]) (.int .i64 (k : Int)) (fun n => run_move (by rfl) (by simp [Act.eval]) _) ?_
      simp only [Act.put, List.getElem_toArray, List.getElem_cons_succ, List.getElem_cons_zero, List.setIfInBounds_toArray, List.set_cons_zero, List.set_cons_succ]
      refine Der.wpQuiet_run (by simp [Region.wanted, yielded]) (.pointer (some (x2.add (k * 4)))) (fun n => Der.index (by rfl) und_items Der.szI x2 N c2 k (by simp [Act.eval]) (by simp [Act.eval]) hk) ?_
      simp only [Act.put, List.getElem_toArray, List.getElem_cons_succ, List.getElem_cons_zero, List.setIfInBounds_toArray, List.set_cons_zero, List.set_cons_succ]
      refine Der.wpQuiet_run (by simp [Region.wanted, yielded]) (.pointer (some ((x2.add (k * 4)).add 1))) (fun n => Der.fieldA (by rfl) (v := .pointer (some (x2.add (k * 4)))) (by simp [Act.eval]) (Der.fldI1 _)) ?_
      simp only [Act.put, List.getElem_toArray, List.getElem_cons_succ, List.getElem_cons_zero, List.setIfInBounds_toArray, List.set_cons_zero, List.set_cons_succ]
      refine Der.wpQuiet_run (by simp [Region.wanted, yielded]) (.slice D2 m2 d2) (fun n => Der.ld Der.naS (by rfl) ((x2.add (k * 4)).add 1) _ (by simp [Act.eval]) h21) ?_
      simp only [Act.put, List.getElem_toArray, List.getElem_cons_succ, List.getElem_cons_zero, List.setIfInBounds_toArray, List.set_cons_zero, List.set_cons_succ]
      refine Der.wpQuiet_run (by simp [Region.wanted, yielded]) (.string (str bd)) (fun n => run_toStr (by rfl) Tryd.underlying22 Tryd.underlying5 Tryd.underlying9 _ D2 m2 d2 bd (by simp [Act.eval]) (Der.drewB (Der.drewB r2 dn) n)) ?_
      simp only [Act.put, List.getElem_toArray, List.getElem_cons_succ, List.getElem_cons_zero, List.setIfInBounds_toArray, List.set_cons_zero, List.set_cons_succ]
      refine Der.wpQuiet_run (by simp [Region.wanted, yielded]) (.bool false) (fun n => run_neqF (by rfl) bd bd rfl (by simp [Act.eval]) (by simp [Act.eval]) _) ?_
      simp only [Act.put, List.getElem_toArray, List.getElem_cons_succ, List.getElem_cons_zero, List.setIfInBounds_toArray, List.set_cons_zero, List.set_cons_succ]
      refine Der.wpQuiet_run (wanted_plain rfl) (.bool false) (fun n => run_pick (b := false) (by rfl) (by simp [Act.eval]) (by simp [Act.eval]) _) ?_
      simp only [Act.put, List.getElem_toArray, List.getElem_cons_succ, List.getElem_cons_zero, List.setIfInBounds_toArray, List.set_cons_zero, List.set_cons_succ]
      refine Der.wpQuiet_run (wanted_plain rfl) (.bool false) (fun n => run_move (by rfl) (by simp [Act.eval]) _) ?_
      simp only [Act.put, List.getElem_toArray, List.getElem_cons_succ, List.getElem_cons_zero, List.setIfInBounds_toArray, List.set_cons_zero, List.set_cons_succ]
      refine Der.wpQuiet_run (by simp [Region.wanted, yielded]) (.slice (some x1) N c1) (fun n => run_move (by rfl) (by simp [Act.eval]) _) ?_
      simp only [Act.put, List.getElem_toArray, List.getElem_cons_succ, List.getElem_cons_zero, List.setIfInBounds_toArray, List.set_cons_zero, List.set_cons_succ]
      refine Der.wpQuiet_run (by simp [Region.wanted, yielded]) (.int .i64 (k : Int)) (fun n => run_move (by rfl) (by simp [Act.eval]) _) ?_
      simp only [Act.put, List.getElem_toArray, List.getElem_cons_succ, List.getElem_cons_zero, List.setIfInBounds_toArray, List.set_cons_zero, List.set_cons_succ]
      refine Der.wpQuiet_run (by simp [Region.wanted, yielded]) (.pointer (some (x1.add (k * 4)))) (fun n => Der.index (by rfl) und_items Der.szI x1 N c1 k (by simp [Act.eval]) (by simp [Act.eval]) hk) ?_
      simp only [Act.put, List.getElem_toArray, List.getElem_cons_succ, List.getElem_cons_zero, List.setIfInBounds_toArray, List.set_cons_zero, List.set_cons_succ]
      refine Der.wpQuiet_run (by simp [Region.wanted, yielded]) (.pointer (some ((x1.add (k * 4)).add 2))) (fun n => Der.fieldA (by rfl) (v := .pointer (some (x1.add (k * 4)))) (by simp [Act.eval]) (Der.fldI2 _)) ?_
      simp only [Act.put, List.getElem_toArray, List.getElem_cons_succ, List.getElem_cons_zero, List.setIfInBounds_toArray, List.set_cons_zero, List.set_cons_succ]
      refine Der.wpQuiet_run (by simp [Region.wanted, yielded]) (.int .i64 iat) (fun n => Der.ld Der.naN (by rfl) ((x1.add (k * 4)).add 2) _ (by simp [Act.eval]) h12) ?_
      simp only [Act.put, List.getElem_toArray, List.getElem_cons_succ, List.getElem_cons_zero, List.setIfInBounds_toArray, List.set_cons_zero, List.set_cons_succ]
      refine Der.wpQuiet_run (by simp [Region.wanted, yielded]) (.slice (some x2) N c2) (fun n => run_move (by rfl) (by simp [Act.eval]) _) ?_
      simp only [Act.put, List.getElem_toArray, List.getElem_cons_succ, List.getElem_cons_zero, List.setIfInBounds_toArray, List.set_cons_zero, List.set_cons_succ]
      refine Der.wpQuiet_run (by simp [Region.wanted, yielded]) (.int .i64 (k : Int)) (fun n => run_move (by rfl) (by simp [Act.eval]) _) ?_
      simp only [Act.put, List.getElem_toArray, List.getElem_cons_succ, List.getElem_cons_zero, List.setIfInBounds_toArray, List.set_cons_zero, List.set_cons_succ]
      refine Der.wpQuiet_run (by simp [Region.wanted, yielded]) (.pointer (some (x2.add (k * 4)))) (fun n => Der.index (by rfl) und_items Der.szI x2 N c2 k (by simp [Act.eval]) (by simp [Act.eval]) hk) ?_
      simp only [Act.put, List.getElem_toArray, List.getElem_cons_succ, List.getElem_cons_zero, List.setIfInBounds_toArray, List.set_cons_zero, List.set_cons_succ]
      refine Der.wpQuiet_run (by simp [Region.wanted, yielded]) (.pointer (some ((x2.add (k * 4)).add 2))) (fun n => Der.fieldA (by rfl) (v := .pointer (some (x2.add (k * 4)))) (by simp [Act.eval]) (Der.fldI2 _)) ?_
      simp only [Act.put, List.getElem_toArray, List.getElem_cons_succ, List.getElem_cons_zero, List.setIfInBounds_toArray, List.set_cons_zero, List.set_cons_succ]
      refine Der.wpQuiet_run (by simp [Region.wanted, yielded]) (.int .i64 iat) (fun n => Der.ld Der.naN (by rfl) ((x2.add (k * 4)).add 2) _ (by simp [Act.eval]) h22) ?_
      simp only [Act.put, List.getElem_toArray, List.getElem_cons_succ, List.getElem_cons_zero, List.setIfInBounds_toArray, List.set_cons_zero, List.set_cons_succ]
      refine Der.wpQuiet_run (by simp [Region.wanted, yielded]) (.bool false) (fun n => Der.neqSame (by rfl) .i64 iat (by simp [Act.eval]) (by simp [Act.eval])) ?_
      simp only [Act.put, List.getElem_toArray, List.getElem_cons_succ, List.getElem_cons_zero, List.setIfInBounds_toArray, List.set_cons_zero, List.set_cons_succ]
      refine Der.wpQuiet_run (wanted_plain rfl) (.bool false) (fun n => run_pick (b := false) (by rfl) (by simp [Act.eval]) (by simp [Act.eval]) _) ?_
      simp only [Act.put, List.getElem_toArray, List.getElem_cons_succ, List.getElem_cons_zero, List.setIfInBounds_toArray, List.set_cons_zero, List.set_cons_succ]
      refine Der.wpQuiet_run (wanted_plain rfl) (.bool false) (fun n => run_move (by rfl) (by simp [Act.eval]) _) ?_
      simp only [Act.put, List.getElem_toArray, List.getElem_cons_succ, List.getElem_cons_zero, List.setIfInBounds_toArray, List.set_cons_zero, List.set_cons_succ]
      refine Der.wpQuiet_run (by simp [Region.wanted, yielded]) (.slice (some x1) N c1) (fun n => run_move (by rfl) (by simp [Act.eval]) _) ?_
      simp only [Act.put, List.getElem_toArray, List.getElem_cons_succ, List.getElem_cons_zero, List.setIfInBounds_toArray, List.set_cons_zero, List.set_cons_succ]
      refine Der.wpQuiet_run (by simp [Region.wanted, yielded]) (.int .i64 (k : Int)) (fun n => run_move (by rfl) (by simp [Act.eval]) _) ?_
      simp only [Act.put, List.getElem_toArray, List.getElem_cons_succ, List.getElem_cons_zero, List.setIfInBounds_toArray, List.set_cons_zero, List.set_cons_succ]
      refine Der.wpQuiet_run (by simp [Region.wanted, yielded]) (.pointer (some (x1.add (k * 4)))) (fun n => Der.index (by rfl) und_items Der.szI x1 N c1 k (by simp [Act.eval]) (by simp [Act.eval]) hk) ?_
      simp only [Act.put, List.getElem_toArray, List.getElem_cons_succ, List.getElem_cons_zero, List.setIfInBounds_toArray, List.set_cons_zero, List.set_cons_succ]
      refine Der.wpQuiet_run (by simp [Region.wanted, yielded]) (.pointer (some ((x1.add (k * 4)).add 3))) (fun n => Der.fieldA (by rfl) (v := .pointer (some (x1.add (k * 4)))) (by simp [Act.eval]) (Der.fldI3 _)) ?_
      simp only [Act.put, List.getElem_toArray, List.getElem_cons_succ, List.getElem_cons_zero, List.setIfInBounds_toArray, List.set_cons_zero, List.set_cons_succ]
      refine Der.wpQuiet_run (by simp [Region.wanted, yielded]) (.int .i64 (iln : Int)) (fun n => Der.ld Der.naN (by rfl) ((x1.add (k * 4)).add 3) _ (by simp [Act.eval]) h13) ?_
      simp only [Act.put, List.getElem_toArray, List.getElem_cons_succ, List.getElem_cons_zero, List.setIfInBounds_toArray, List.set_cons_zero, List.set_cons_succ]
      refine Der.wpQuiet_run (by simp [Region.wanted, yielded]) (.slice (some x2) N c2) (fun n => run_move (by rfl) (by simp [Act.eval]) _) ?_
      simp only [Act.put, List.getElem_toArray, List.getElem_cons_succ, List.getElem_cons_zero, List.setIfInBounds_toArray, List.set_cons_zero, List.set_cons_succ]
      refine Der.wpQuiet_run (by simp [Region.wanted, yielded]) (.int .i64 (k : Int)) (fun n => run_move (by rfl) (by simp [Act.eval]) _) ?_
      simp only [Act.put, List.getElem_toArray, List.getElem_cons_succ, List.getElem_cons_zero, List.setIfInBounds_toArray, List.set_cons_zero, List.set_cons_succ]
      refine Der.wpQuiet_run (by simp [Region.wanted, yielded]) (.pointer (some (x2.add (k * 4)))) (fun n => Der.index (by rfl) und_items Der.szI x2 N c2 k (by simp [Act.eval]) (by simp [Act.eval]) hk) ?_
      simp only [Act.put, List.getElem_toArray, List.getElem_cons_succ, List.getElem_cons_zero, List.setIfInBounds_toArray, List.set_cons_zero, List.set_cons_succ]
      refine Der.wpQuiet_run (by simp [Region.wanted, yielded]) (.pointer (some ((x2.add (k * 4)).add 3))) (fun n => Der.fieldA (by rfl) (v := .pointer (some (x2.add (k * 4)))) (by simp [Act.eval]) (Der.fldI3 _)) ?_
      simp only [Act.put, List.getElem_toArray, List.getElem_cons_succ, List.getElem_cons_zero, List.setIfInBounds_toArray, List.set_cons_zero, List.set_cons_succ]
      refine Der.wpQuiet_run (by simp [Region.wanted, yielded]) (.int .i64 (iln : Int)) (fun n => Der.ld Der.naN (by rfl) ((x2.add (k * 4)).add 3) _ (by simp [Act.eval]) h23) ?_
      simp only [Act.put, List.getElem_toArray, List.getElem_cons_succ, List.getElem_cons_zero, List.setIfInBounds_toArray, List.set_cons_zero, List.set_cons_succ]
      refine Der.wpQuiet_run (by simp [Region.wanted, yielded]) (.bool false) (fun n => Der.neqSame (by rfl) .i64 (iln : Int) (by simp [Act.eval]) (by simp [Act.eval])) ?_
      simp only [Act.put, List.getElem_toArray, List.getElem_cons_succ, List.getElem_cons_zero, List.setIfInBounds_toArray, List.set_cons_zero, List.set_cons_succ]
      refine Der.wpQuiet_run (wanted_plain rfl) (.bool false) (fun n => run_pick (b := false) (by rfl) (by simp [Act.eval]) (by simp [Act.eval]) _) ?_
      simp only [Act.put, List.getElem_toArray, List.getElem_cons_succ, List.getElem_cons_zero, List.setIfInBounds_toArray, List.set_cons_zero, List.set_cons_succ]
      refine wpQuiet_nil ?_
      intro _ hw'
      obtain ⟨nq, hw2⟩ := hw'
      subst hw2
      go_wp2
      go_roundw
      case rel => exact ⟨k + 1, by omega, by go_num, _, rfl⟩
      case measure => simp [intOf]; omega
    · obtain rfl : k = N := by omega
      have t1 : ¬ (k : Int) < (k : Int) := by omega
      go_wp2
      go_ret
      exact ⟨rfl, below_drewN (Below.refl _ _) _⟩
end Go.Proofs.YthkggeohdclffaaDoor
