/-
  The walk of layer 8's live question.
-/
import Derived.Test.YthigbggacgiamaaDoorGcmG
set_option linter.unusedVariables false
set_option linter.unusedSimpArgs false
set_option maxRecDepth 100000
namespace Go.Proofs.YthigbggacgiamaaDoor
open Go.RowKit
namespace Gcm
def headAnswer : List UInt8 := [88, 226, 252, 206, 250, 126, 48, 97, 54, 127, 29, 87, 164, 231, 69, 90]
theorem head_right : lock (Aes.keys (List.replicate 16 0)) (List.replicate 12 0) [] [] = headAnswer := by decide +kernel
end Gcm
theorem made_bytes (n : Nat) : (madeCells (Value.int .u8 0).cells (n * 1)).toList = (List.replicate n (0 : UInt8)).map U8 := by
  rw [Nat.mul_one, List.map_replicate]
  simp only [madeCells, Value.cells, Array.toList_map, Array.toList_range]
  have e : ∀ x : Nat, (#[Value.int .u8 0] : Array Value)[x % (#[Value.int .u8 0] : Array Value).size]! = U8 0 := fun x => by
    rw [show x % (#[Value.int .u8 0] : Array Value).size = 0 from Nat.mod_one x]; rfl
  rw [List.map_congr_left (fun x _ => e x), List.map_const', List.length_range]
section
variable {w : World} {o : Oper} {a : Act} {Q : Exit → Act → World → Prop} {ops : Array Oper} {rest : List Oper}
theorem run_makeB (w : World) {ρ : Operand → Value} {o : Oper} (l c : Operand) (ho : o.op = .makeSlice 30 l c) (base n : Nat) (hl : ρ l = .int .i64 (n : Int)) (hc : ρ c = .int .i64 (n : Int)) (hn : n ≤ 140737488355328) (hB : base ≤ w.heap.size) :
    ∃ w', (execOp ρ o).run Tryd.prog w = .ok (.value (.slice (some ⟨w.heap.size, 0, none⟩) n n)) w' ∧ OwnB w' base (.slice (some ⟨w.heap.size, 0, none⟩) n n) (List.replicate n 0) ∧ w.grownBy w' none := by
  obtain ⟨i0, hi0, hz0, hz1, hz2⟩ := info_parts u8_info
  obtain ⟨w', hrun, r1, r2⟩ := run_make_full (P := Tryd.prog) w base 30 5 i0 _ 1 Tryd.underlying30 hi0 hz0 hz1 .i64 .i64 n (by rw [hz2]; omega) (by unfold maxLen; omega) hB
  refine ⟨w', ?_, ⟨?_⟩, r2⟩
  · unfold execOp
    simp only [ho, hl, hc, Sem.run_bind, hrun, Result.andThen_ok]
    rfl
  · rw [List.length_replicate, ← made_bytes]; exact r1
theorem wpl_makeB (hgd : o.guard = none) (l c : Operand) (ho : o.op = .makeSlice 30 l c) (base n : Nat) (hl : a.eval l = .int .i64 (n : Int)) (hc : a.eval c = .int .i64 (n : Int)) (hn : n ≤ 140737488355328) (hB : base ≤ w.heap.size)
    (h : ∀ w', OwnB w' base (.slice (some ⟨w.heap.size, 0, none⟩) n n) (List.replicate n 0) → w.grownBy w' none → wpList Tryd.prog ops Q rest (a.put o.dst (.slice (some ⟨w.heap.size, 0, none⟩) n n)) w') : wpList Tryd.prog ops Q (o :: rest) a w :=
  wpList_plain hgd fun K hK => by
    obtain ⟨w', hrun, h1, h2⟩ := run_makeB w l c ho base n hl hc hn hB
    unfold Oper.wp
    rw [hrun]
    exact hK _ _ (h w' h1 h2)
end
theorem below_none {B : Nat} {a w w' : World} (h : Below B a w) (hg : w.grownBy w' none) (hs : B ≤ w.heap.size) : Below B a w' := h.grown hg hs (fun k hk => by cases hk)
theorem zero12 : Tryd.prog.built 27 [] = some (arr (List.replicate 12 0)) := by kernel_rfl
end Go.Proofs.YthigbggacgiamaaDoor
