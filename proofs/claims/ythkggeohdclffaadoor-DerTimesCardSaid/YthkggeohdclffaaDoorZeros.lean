/-
  append(s, make([]byte, k)...) onto a slice that the call made.
-/
import Derived.Test.YthkggeohdclffaaDoorApp
import Derived.Lib.AppendZerosOnto
import Derived.Laws.MakeOwn
import Derived.Laws.OwnMore
set_option linter.unusedVariables false
set_option linter.unusedSimpArgs false
set_option maxRecDepth 100000
namespace Go.Proofs.YthkggeohdclffaaDoor
open Go.RowKit
theorem zero_cells (k : Nat) : Builtin.zeroCells #[.int .u8 0] k = ((List.replicate k (0 : UInt8)).map U8).toArray := by
  refine Array.ext (by simp [Builtin.zeroCells]) fun i h1 h2 => ?_
  simp [Builtin.zeroCells, U8, Nat.mod_one]
  rfl
theorem run_append0 (w : World) (ty : TypeId) (B : Nat) (v : Value) (l : List UInt8) (k : Nat) (hown : OwnB w B v l) (h0 : 0 < l.length) (hk : l.length + k ≤ 140737488355328) (hB : B ≤ w.heap.size) :
    ∃ v' w', (Builtin.append_ #[22, 3] ty #[v, .int .i64 k]).run Tryd.prog w = .ok v' w' ∧ OwnB w' B v' (l ++ List.replicate k 0) ∧ w.grownBy w' v.ownBlock ∧ (v'.ownBlock = v.ownBlock ∨ v'.ownBlock = some w.heap.size) := by
  obtain ⟨i, hi, hz, hs, hb⟩ := info_parts u8_info
  have ht := Tryd.underlying22
  have htn := Tryd.underlying3
  have hlen : (l.map U8 ++ (List.replicate k (0 : UInt8)).map U8).length = l.length + k := by simp
  have hw : IntKind.i64.wrap (k : Int) = k := IntWalk.i64_in _ (by omega)
  have hneg : ¬ ((k : Int) < 0) := by omega
  have h48i : ¬ (281474976710656 < (k : Int)) := by omega
  have hol : (l ++ List.replicate k 0).length = l.length + k := by simp
  have hom : (l ++ List.replicate k 0).map U8 = l.map U8 ++ (List.replicate k (0 : UInt8)).map U8 := List.map_append
  have ho := hown
  obtain ⟨hx, h2⟩ := hown.own
  rcases h2 with ⟨rfl, h⟩ | ⟨g, cap, cur, rfl, hg, hh, hnc, hcm, hcs, htake⟩
  · omega
  · by_cases hr : l.length + k ≤ cap
    · have hst := run_storeCells_at Tryd.prog g l.length 5 ((List.replicate k (0 : UInt8)).map U8) 0 cur w hh (by simp; omega) (by simp [U8, Value.oneCell'])
      have hz' : (Builtin.zeroCells (#[Value.int IntKind.u8 0] : Array Value) k).toList = (List.replicate k (0 : UInt8)).map U8 := by rw [zero_cells]
      simp only [Nat.add_zero] at hst
      refine ⟨.slice (some ⟨g, 0, none⟩) (l.length + k) cap, w.setRow g (cur.toList.take l.length ++ (List.replicate k (0 : UInt8)).map U8 ++ cur.toList.drop (l.length + ((List.replicate k (0 : UInt8)).map U8).length)).toArray, ?_, ⟨?_⟩, ⟨rfl, rfl, rfl, by simp, fun k _ hk => setRow_other w g k _ (fun e => hk (by simp [Value.ownBlock, e]))⟩, Or.inl rfl⟩
      · by_cases hk0 : k = 0
        · have hn0 : (List.replicate k (0 : UInt8)).map U8 = [] := by rw [hk0]; rfl
          rw [hn0] at hst ⊢
          have hw0 : IntKind.i64.wrap 0 = 0 := IntWalk.i64_in _ (by omega)
          have hst' := hst
          subst hk0
          simp [Builtin.append_, run_underlying ht, run_underlying htn, sizeOf, typeInfo, zeroValue, hi, hz, hs, hb, asInt, asIntOf, hw0, hnc, Addr.add_lit, hst']
        · have hmul : ¬ (k * 1 = 0) := by omega
          simp [Builtin.append_, run_underlying ht, run_underlying htn, sizeOf, typeInfo, zeroValue, hi, hz, hs, hb, asInt, asIntOf, hw, hneg, h48i, hr, hk0, Value.cells, Addr.add_lit]
          rw [hz', hst]
          simp
      · rw [hol, hom]
        refine ⟨by simp, .inr ⟨g, cap, _, rfl, hg, setRow_heap w g cur _ _ _ hh, hr, hcm, ?_, ?_⟩⟩
        · simp; omega
        · rw [Nat.mul_one] at htake
          rw [htake]
          simp only [Nat.mul_one]
          rw [← hlen]
          exact List.take_left
    · have hk0 : 0 < k := by omega
      have hfit := growslice_fits (need := l.length + k) (old := cap) (bytes := 1) (by omega) (by omega)
      have hold : (Builtin.firstCells i.size l.length (.slice (some ⟨g, 0, none⟩) l.length cap)).run Tryd.prog w.drew = .ok (l.map U8).toArray w.drew := by
        rw [hs]
        refine run_firstCells_some w.drew 1 l.length ⟨g, 0, none⟩ l.length cap (l.map U8) (by simp) fun j u hu => ?_
        have := hown.own.cells (g := g) rfl j u hu
        exact this
      have hrun := Lib.run_append_grow_zeros (P := Tryd.prog) w 22 3 ty 5 i _ .i64 .i64 ht htn hi hz (some ⟨g, 0, none⟩) l.length cap (l.map U8) hold k hk0 (by omega) (by omega) (by omega) (by rw [hb]; omega) (by rw [hb]; exact hfit)
      refine ⟨_, _, hrun, ⟨?_⟩, ⟨rfl, rfl, rfl, by simp, fun j hj _ => heap_alloc_old w.drew _ hj⟩, Or.inr rfl⟩
      rw [hol, hom]
      have hge := grownCap_ge w (l.length + k) cap 5
      refine ⟨by simp, .inr ⟨w.heap.size, _, _, rfl, hB, heap_alloc_new w.drew _, hge, grownCap_le_maxLen w _ _ _ (by unfold maxLen; omega), ?_, ?_⟩⟩
      · simp only [Array.size_append, List.size_toArray, size_zeroCells, List.length_map, Value.cells]
        simp
        omega
      · simp only [Value.cells, zero_cells, Array.toList_append, List.append_assoc, Nat.mul_one]
        rw [← List.append_assoc, ← hlen]
        exact List.take_left
/-- .. onto nil. -/
theorem run_append0_nil (w : World) (ty : TypeId) (k : Nat) (h0 : 0 < k) (hk : k ≤ 140737488355328) :
    ∃ v' w', (Builtin.append_ #[22, 3] ty #[.slice none 0 0, .int .i64 k]).run Tryd.prog w = .ok v' w' ∧ OwnB w' w.heap.size v' (List.replicate k 0) ∧ w.grownBy w' none := by
  obtain ⟨i, hi, hz, hs, hb⟩ := info_parts u8_info
  have ht := Tryd.underlying22
  have htn := Tryd.underlying3
  have hfit := growslice_fits (need := 0 + k) (old := 0) (bytes := 1) (by omega) (by omega)
  have hold : (Builtin.firstCells i.size 0 (.slice none 0 0)).run Tryd.prog w.drew = .ok (([] : List UInt8).map U8).toArray w.drew := by
    rw [hs]; rfl
  have hrun := Lib.run_append_grow_zeros (P := Tryd.prog) w 22 3 ty 5 i _ .i64 .i64 ht htn hi hz none 0 0 (([] : List UInt8).map U8) hold k h0 (by omega) (by omega) (by omega) (by rw [hb]; omega) (by rw [hb]; exact hfit)
  simp only [Nat.zero_add] at hrun
  refine ⟨_, _, hrun, ⟨?_⟩, ⟨rfl, rfl, rfl, by simp, fun j hj _ => heap_alloc_old w.drew _ hj⟩⟩
  have hge := grownCap_ge w k 0 5
  have hol : (List.replicate k (0 : UInt8)).length = k := List.length_replicate
  rw [hol]
  refine ⟨by simp, .inr ⟨w.heap.size, _, _, rfl, Nat.le_refl _, heap_alloc_new w.drew _, by omega, grownCap_le_maxLen w _ _ _ (by unfold maxLen; omega), ?_, ?_⟩⟩
  · simp only [Array.size_append, List.size_toArray, size_zeroCells, List.length_map, Value.cells]
    simp
    omega
  · simp only [Value.cells, zero_cells, Array.toList_append, List.append_assoc, Nat.mul_one]
    have hl : ((List.replicate k (0 : UInt8)).map U8).length = k := by simp
    simp only [List.map_nil, List.nil_append]
    exact List.take_left' hl
section
variable {w : World} {ops : Array Oper} {rest : List Oper} {o : Oper} {a : Act} {Q : Exit → Act → World → Prop}
theorem wpl_append0 (hgd : o.guard = none) (s x : Operand) (ho : o.op = .call { callee := .builtin .append, args := #[s, x], argTypes := #[22, 3] })
    (B : Nat) (v : Value) (l : List UInt8) (hs : a.eval s = v) (hown : OwnB w B v l) (k : Nat) (hx : a.eval x = .int .i64 k) (h0 : 0 < l.length)
    (hlen : l.length + k ≤ 140737488355328) (hB : B ≤ w.heap.size)
    (h : ∀ v' w', OwnB w' B v' (l ++ List.replicate k 0) → w.grownBy w' v.ownBlock → (v'.ownBlock = v.ownBlock ∨ v'.ownBlock = some w.heap.size) → wpList Tryd.prog ops Q rest (a.put o.dst v') w') : wpList Tryd.prog ops Q (o :: rest) a w := by
  obtain ⟨v', w', hrun, h1, h2, h3⟩ := run_append0 w o.type B v l k hown h0 hlen hB
  exact Lib.wpList_append_run w hgd s x _ _ ho _ _ hs hx v' w' hrun (h v' w' h1 h2 h3)
theorem made_noughts (n : Nat) : (madeCells (Value.int .u8 0).cells (n * 1)).toList = (List.replicate n (0 : UInt8)).map U8 := by
  rw [Nat.mul_one, List.map_replicate]
  simp only [madeCells, Value.cells, Array.toList_map, Array.toList_range]
  have e : ∀ x : Nat, (#[Value.int .u8 0] : Array Value)[x % (#[Value.int .u8 0] : Array Value).size]! = U8 0 := fun x => by
    rw [show x % (#[Value.int .u8 0] : Array Value).size = 0 from Nat.mod_one x]; rfl
  rw [List.map_congr_left (fun x _ => e x), List.map_const', List.length_range]
theorem run_makeI (w : World) (base n m : Nat) (hnm : n ≤ m) (hn : m ≤ 140737488355328) (hB : base ≤ w.heap.size) :
    ∃ w', (Instr.makeSlice 22 (.int .i64 (n : Int)) (.int .i64 (m : Int))).run Tryd.prog w = .ok (.slice (some ⟨w.heap.size, 0, none⟩) n m) w' ∧ OwnB w' base (.slice (some ⟨w.heap.size, 0, none⟩) n m) (List.replicate n 0) ∧ w.grownBy w' none := by
  obtain ⟨i0, hi0, hz0, hz1, hz2⟩ := info_parts u8_info
  have hrun := run_make (P := Tryd.prog) w 22 5 i0 _ Tryd.underlying22 hi0 hz0 .i64 .i64 (n : Int) (m : Int) (by omega) (by omega) (by rw [hz2]; omega) (by omega)
  refine ⟨w.alloc (.cells (madeCells (Value.int .u8 0).cells ((m : Int).toNat * i0.size)) 5), hrun, ⟨?_⟩, World.grownBy_alloc _ _ _⟩
  rw [List.length_replicate]
  refine ⟨by simp, .inr ⟨w.heap.size, m, _, rfl, hB, heap_alloc_new w _, hnm, by unfold maxLen; omega, ?_, ?_⟩⟩
  · simp [madeCells, hz1]
  · rw [hz1, Int.toNat_natCast, made_noughts, Nat.mul_one, ← List.map_take, List.take_replicate, Nat.min_eq_left hnm]
theorem run_makeRoom (w : World) {ρ : Operand → Value} {o : Oper} (l c : Operand) (ho : o.op = .makeSlice 22 l c) (base n m : Nat) (hl : ρ l = .int .i64 (n : Int)) (hc : ρ c = .int .i64 (m : Int)) (hnm : n ≤ m) (hn : m ≤ 140737488355328) (hB : base ≤ w.heap.size) :
    ∃ w', (execOp ρ o).run Tryd.prog w = .ok (.value (.slice (some ⟨w.heap.size, 0, none⟩) n m)) w' ∧ OwnB w' base (.slice (some ⟨w.heap.size, 0, none⟩) n m) (List.replicate n 0) ∧ w.grownBy w' none := by
  obtain ⟨i0, hi0, hz0, hz1, hz2⟩ := info_parts u8_info
  have hrun := run_make (P := Tryd.prog) w 22 5 i0 _ Tryd.underlying22 hi0 hz0 .i64 .i64 (n : Int) (m : Int) (by omega) (by omega) (by rw [hz2]; omega) (by omega)
  refine ⟨w.alloc (.cells (madeCells (Value.int .u8 0).cells ((m : Int).toNat * i0.size)) 5), ?_, ⟨?_⟩, World.grownBy_alloc _ _ _⟩
  · unfold execOp
    simp only [ho, hl, hc, Sem.run_bind, hrun, Result.andThen_ok]
    rfl
  · rw [List.length_replicate]
    refine ⟨by simp, .inr ⟨w.heap.size, m, _, rfl, hB, heap_alloc_new w _, hnm, by unfold maxLen; omega, ?_, ?_⟩⟩
    · simp [madeCells, hz1]
    · rw [hz1, Int.toNat_natCast, made_noughts, Nat.mul_one, ← List.map_take, List.take_replicate, Nat.min_eq_left hnm]
theorem wpl_makeRoom (hgd : o.guard = none) (l c : Operand) (ho : o.op = .makeSlice 22 l c) (base n m : Nat) (hl : a.eval l = .int .i64 (n : Int)) (hc : a.eval c = .int .i64 (m : Int)) (hnm : n ≤ m) (hn : m ≤ 140737488355328) (hB : base ≤ w.heap.size)
    (h : ∀ w', OwnB w' base (.slice (some ⟨w.heap.size, 0, none⟩) n m) (List.replicate n 0) → w.grownBy w' none → wpList Tryd.prog ops Q rest (a.put o.dst (.slice (some ⟨w.heap.size, 0, none⟩) n m)) w') : wpList Tryd.prog ops Q (o :: rest) a w :=
  wpList_plain hgd fun K hK => by
    obtain ⟨w', hrun, h1, h2⟩ := run_makeRoom w l c ho base n m hl hc hnm hn hB
    unfold Oper.wp
    rw [hrun]
    exact hK _ _ (h w' h1 h2)
end
theorem below_new {B : Nat} {a w w' : World} (h : Below B a w) (hg : w.grownBy w' none) (hs : B ≤ w.heap.size) : Below B a w' := h.grown hg hs (fun k hk => by cases hk)
end Go.Proofs.YthkggeohdclffaaDoor
