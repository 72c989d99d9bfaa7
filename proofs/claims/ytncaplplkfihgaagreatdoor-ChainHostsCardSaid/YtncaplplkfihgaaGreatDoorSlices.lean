/-
  Single steps: a slice's part; any operation whose run is known.
-/
import Derived.Test.YtncaplplkfihgaaGreatDoorHeldB
set_option linter.unusedVariables false
set_option linter.unusedSimpArgs false
set_option maxRecDepth 100000
namespace Go.Proofs.YtncaplplkfihgaaGreatDoor
open Go.RowKit
theorem wpl_run {P : Program} {w w2 : World} {o : Oper} {a : Act} {Q : Exit → Act → World → Prop} {ops : Array Oper} {rest : List Oper} (hw : Region.wanted o (yielded ops a.tmps) = true) (v : Value) (hrun : (execOp a.eval o).run P w = .ok (.value v) w2) (h : wpList P ops Q rest (a.put o.dst v) w2) : wpList P ops Q (o :: rest) a w :=
  wpList_step fun K hK => by
    rw [if_pos hw]
    unfold Oper.wp
    rw [hrun]
    exact hK _ _ h
theorem u8_cell1 : (Tryz.prog.info? 5).map (·.size) = some 1 := by kernel_rfl
theorem run_slice_from {P : Program} {w : World} {o : Oper} {ρ : Operand → Value} {t e : TypeId} {x y : Operand} (ho : o.op = .slice t x (some y) none none) (ht : P.underlying t = some (.slice e)) (hs : (P.info? e).map (·.size) = some 1) (D : Option Addr) (n d k : Nat)
    (hx : ρ x = .slice D n d) (hy : ρ y = .int .i64 (k : Int)) (hk : k ≤ n) (hnd : n ≤ d) : (execOp ρ o).run P w = .ok (.value (.slice (if d = k then D else D.map (·.add k)) (n - k) (d - k))) w := by
  have h1 : (k : Int) ≤ (n : Int) := by omega
  have h2 : (n : Int) ≤ (d : Int) := by omega
  have h3 : (0 : Int) ≤ (k : Int) := by omega
  unfold execOp
  simp only [ho, hx, hy]
  by_cases h4 : d = k
  · simp [go_sem, Instr.sliceAt, Instr.slice, Instr.sliceBounds, Instr.sliceBound, run_underlying ht, run_sizeOf hs, hy, h1, h2, h3, hnd, hk, asIntOf, h4]
  · simp [go_sem, Instr.sliceAt, Instr.slice, Instr.sliceBounds, Instr.sliceBound, run_underlying ht, run_sizeOf hs, hy, h1, h2, h3, hnd, hk, asIntOf, h4]
theorem run_slice_to {P : Program} {w : World} {o : Oper} {ρ : Operand → Value} {t e : TypeId} {x y : Operand} (ho : o.op = .slice t x none (some y) none) (ht : P.underlying t = some (.slice e)) {m : Nat} (hs : (P.info? e).map (·.size) = some m) (D : Option Addr) (k d n : Nat)
    (hx : ρ x = .slice D k d) (hy : ρ y = .int .i64 (n : Int)) (hn : n ≤ d) : (execOp ρ o).run P w = .ok (.value (.slice D n d)) w := by
  have h2 : (n : Int) ≤ (d : Int) := by omega
  have h3 : (0 : Int) ≤ (n : Int) := by omega
  unfold execOp
  simp only [ho, hx, hy]
  simp [go_sem, Instr.sliceAt, Instr.slice, Instr.sliceBounds, Instr.sliceBound, run_underlying ht, run_sizeOf hs, hy, h2, h3, hn, asIntOf, Addr.add_zero']
end Go.Proofs.YtncaplplkfihgaaGreatDoor
