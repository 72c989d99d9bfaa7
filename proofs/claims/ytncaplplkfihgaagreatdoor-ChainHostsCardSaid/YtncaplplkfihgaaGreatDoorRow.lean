/-
  Laws for a whole array (or struct) that is loaded, stored or laid: at the level of one operation, in a plain region, in a quiet one, in a still one.
-/
import Derived.Test.YtncaplplkfihgaaGreatDoorMem
import Derived.Deep.QuietTactic
import Derived.StillTailTactics
import Derived.Laws.Cells
import Derived.Laws.CopyRow
import Derived.Laws.Tables
set_option linter.unusedVariables false
set_option linter.unusedSimpArgs false
set_option maxRecDepth 100000
namespace Go.Proofs.YtncaplplkfihgaaGreatDoor
open Go.RowKit
section
variable {P : Program} {w : World}
def isAggD : TypeDesc → Bool | .struct _ | .array _ _ => true | _ => false
/-- A type that takes n cells and whose values are aggregates. -/
structure AggT (P : Program) (ty : TypeId) (n : Nat) : Prop where
  und : ((P.underlying ty).map isAggD) = some true
  size : (P.info? ty).map (·.size) = some n
theorem run_isAgg {ty : TypeId} {n : Nat} (h : AggT P ty n) : (isAgg ty).run P w = .ok true w := by
  have hu := h.und
  cases hd : P.underlying ty with
  | none => simp [hd] at hu
  | some d =>
    unfold isAgg
    rw [Sem.run_bind, run_underlying hd w]
    rw [hd] at hu
    cases d <;> simp_all [isAggD]
theorem run_sizeOf {ty : TypeId} {n : Nat} (h : (P.info? ty).map (·.size) = some n) : (sizeOf ty).run P w = .ok n w := by
  cases hq : P.info? ty with
  | none => simp [hq] at h
  | some i =>
    have hs : i.size = n := by simpa [hq] using h
    simp [sizeOf, typeInfo, hq, hs]
theorem run_loadVar_cells {ty : TypeId} {n : Nat} (h : AggT P ty n) (ad : Addr) (xs : List Value) (hl : xs.length = n) (hc : ∀ j v, xs[j]? = some v → w.cell? (ad.add j) = some v) :
    (loadVar ty ad).run P w = .ok (.agg xs.toArray) w := by
  have hr := run_loadCells_list (P := P) w ad xs hc
  rw [hl] at hr
  simp [loadVar, Sem.run_bind, run_isAgg h, run_sizeOf h.size, hr]
theorem run_execOp_load {o : Oper} {ρ : Operand → Value} {ty : TypeId} {x : Operand} (ho : o.op = .load ty x) {ad : Addr} (hx : ρ x = .pointer (some ad)) {v : Value} (hr : (loadVar ty ad).run P w = .ok v w) :
    (execOp ρ o).run P w = .ok (.value v) w := by
  unfold execOp
  simp only [ho, hx, Instr.loadAt, Instr.sureAddr, Sem.run_bind, Sem.run_pure, Result.andThen_ok, hr]
/-- The cells that a load of n cells at ad finds. -/
structure Cells (w : World) (ad : Addr) (xs : List Value) : Prop where
  is : ∀ j v, xs[j]? = some v → w.cell? (ad.add j) = some v
theorem Cells.keep {w w' : World} {ad : Addr} {xs : List Value} (h : Cells w ad xs) (hk : ∀ p : Addr, p.block = ad.block → w'.cell? p = w.cell? p) : Cells w' ad xs :=
  ⟨fun j v hv => (hk _ (block_of_add ad j)).trans (h.is j v hv)⟩
theorem Cells.drew {w : World} {ad : Addr} {xs : List Value} (h : Cells w ad xs) : Cells w.drew ad xs := ⟨h.is⟩
theorem Cells.drewN {w : World} {ad : Addr} {xs : List Value} (h : Cells w ad xs) (k : Nat) : Cells (w.drewN k) ad xs := ⟨h.is⟩
theorem Cells.below {w w' : World} {B : Nat} {ad : Addr} {xs : List Value} (h : Cells w ad xs) (hb : Below B w w') (hB : ad.block < B) : Cells w' ad xs :=
  h.keep fun p hp => hb.cell (by omega)
theorem Blk.cells_at {g : Nat} {t : TypeId} {cs : Array Value} (h : Blk w g t cs) (off : Nat) (xs : List Value) (hx : ∀ j v, xs[j]? = some v → cs[off + j]? = some v) : Cells w ⟨g, off, none⟩ xs := by
  refine ⟨fun j v hv => ?_⟩
  have hadd : (⟨g, off, none⟩ : Addr).add j = ⟨g, off + j, none⟩ := by unfold Addr.add; split <;> simp_all
  rw [hadd, h.cell]; exact hx j v hv
theorem Blk.cells {g : Nat} {t : TypeId} {cs : Array Value} (h : Blk w g t cs) : Cells w ⟨g, 0, none⟩ cs.toList := h.cells_at 0 _ (by simp)
theorem Blk.cells_arr {g : Nat} {t : TypeId} {l : List UInt8} (h : Blk w g t (arr l)) : Cells w ⟨g, 0, none⟩ (l.map U8) := h.cells_at 0 _ (by intro j v hv; simpa [arr] using hv)
section
variable {o : Oper} {a : Act} {K : Act → World → Prop} {Q : Exit → Act → World → Prop} {ops : Array Oper} {rest : List Oper}
theorem wpl_load (hgd : o.guard = none) (ty : TypeId) (x : Operand) (ho : o.op = .load ty x) (ad : Addr) (hx : a.eval x = .pointer (some ad)) (n : Nat) (ht : AggT P ty n) (xs : List Value) (hl : xs.length = n)
    (hc : Cells w ad xs) (h : wpList P ops Q rest (a.put o.dst (.agg xs.toArray)) w) : wpList P ops Q (o :: rest) a w :=
  wpList_plain hgd fun K hK => by
    unfold Oper.wp
    rw [run_execOp_load ho hx (run_loadVar_cells ht ad xs hl hc.is)]
    exact hK _ _ h
theorem still_load (hgd : o.guard = none) (ty : TypeId) (x : Operand) (ho : o.op = .load ty x) (ad : Addr) (hx : a.eval x = .pointer (some ad)) (n : Nat) (ht : AggT P ty n) (xs : List Value) (hl : xs.length = n)
    (hc : Cells w ad xs) {Q : Act → Prop} (h : wpStill P ops w Q rest (a.put o.dst (.agg xs.toArray))) : wpStill P ops w Q (o :: rest) a :=
  wpStill_step fun K hK => by
    rw [if_pos (by simp [Region.wanted, hgd])]
    unfold Oper.still
    rw [run_execOp_load ho hx (run_loadVar_cells ht ad xs hl hc.is), Oper.stillUpon_value]
    exact hK _ h
theorem wpl_alloc (hgd : o.guard = none) (ty : TypeId) (ho : o.op = .alloc ty) (cs : Array Value) (hz : (P.info? ty).bind (·.zero) = some (.agg cs))
    (h : wpList P ops Q rest (a.put o.dst (.pointer (some ⟨w.heap.size, 0, none⟩))) (w.alloc (.cells cs ty))) : wpList P ops Q (o :: rest) a w :=
  wpList_plain hgd fun K hK => by
    have hrun : (execOp a.eval o).run P w = .ok (.value (.pointer (some ⟨w.heap.size, 0, none⟩))) (w.alloc (.cells cs ty)) := by
      cases hq : P.info? ty with
      | none => simp [hq] at hz
      | some i =>
        have hz' : i.zero = some (.agg cs) := by simpa [hq] using hz
        unfold execOp
        simp only [ho]
        simp [Instr.alloc, zeroValue, typeInfo, hq, hz', newVar, newRow, Value.cells]
    unfold Oper.wp
    rw [hrun]
    exact hK _ _ h
/-- A store of an aggregate into the middle of a block. -/
def splice (cs : Array Value) (off : Nat) (xs : List Value) : Array Value := (cs.toList.take off ++ xs ++ cs.toList.drop (off + xs.length)).toArray
theorem run_storeVar_at {g : Nat} {t ty : TypeId} {cs : Array Value} (hb : Blk w g t cs) (off : Nat) (xs : List Value) (hi : (P.info? ty).map (·.size) = some xs.length) (hle : off + xs.length ≤ cs.size)
    (h1 : ∀ v ∈ xs, v.oneCell' = true) : (storeVar ty ⟨g, off, none⟩ (.agg xs.toArray)).run P w = .ok () (w.setRow g (splice cs off xs)) := by
  have hr := run_storeCells_at P g off t xs 0 cs w hb.is (by omega) h1
  simp only [Nat.add_zero] at hr
  simp [storeVar, run_sizeOf hi, Value.cells, hr, splice]
theorem wpl_store (hgd : o.guard = none) (ty : TypeId) (x y : Operand) (ho : o.op = .store ty x y) (g off : Nat) (xs : List Value) (hx : a.eval x = .pointer (some ⟨g, off, none⟩)) (hy : a.eval y = .agg xs.toArray)
    (t : TypeId) (cs : Array Value) (hb : Blk w g t cs) (hi : (P.info? ty).map (·.size) = some xs.length) (hle : off + xs.length ≤ cs.size) (h1 : ∀ v ∈ xs, v.oneCell' = true)
    (h : wpList P ops Q rest (a.put o.dst undef) (w.setRow g (splice cs off xs))) : wpList P ops Q (o :: rest) a w :=
  wpList_plain hgd fun K hK => by
    unfold Oper.wp execOp
    simp only [ho, hx, hy, Instr.storeAt, Instr.sureAddr, Sem.run_bind, Sem.run_pure, Result.andThen_ok, run_storeVar_at hb off xs hi hle h1]
    exact hK _ _ h
theorem splice_all (cs : Array Value) (xs : List Value) (h : xs.length = cs.size) : splice cs 0 xs = xs.toArray := by
  simp [splice, h]
/-- A store of a whole array of bytes into a block that is one. -/
theorem wpl_store_arr (hgd : o.guard = none) (ty : TypeId) (x y : Operand) (ho : o.op = .store ty x y) (g : Nat) (l : List UInt8) (hx : a.eval x = .pointer (some ⟨g, 0, none⟩)) (hy : a.eval y = .agg (arr l))
    (t : TypeId) (cs : Array Value) (hb : Blk w g t cs) (n : Nat) (hi : (P.info? ty).map (·.size) = some n) (hl : l.length = n) (hn : cs.size = n)
    (h : wpList P ops Q rest (a.put o.dst undef) (w.setRow g (arr l))) : wpList P ops Q (o :: rest) a w := by
  refine wpl_store hgd ty x y ho g 0 (l.map U8) hx hy t cs hb (by rw [hi, List.length_map, hl]) (by rw [List.length_map]; omega) (by simp [Value.oneCell']) ?_
  rw [splice_all cs _ (by rw [List.length_map]; omega)]
  exact h
theorem wpl_load_arr (hgd : o.guard = none) (ty : TypeId) (x : Operand) (ho : o.op = .load ty x) (ad : Addr) (hx : a.eval x = .pointer (some ad)) (n : Nat) (ht : AggT P ty n) (l : List UInt8) (hl : l.length = n)
    (hc : Cells w ad (l.map U8)) (h : wpList P ops Q rest (a.put o.dst (.agg (arr l))) w) : wpList P ops Q (o :: rest) a w :=
  wpl_load hgd ty x ho ad hx n ht _ (by rw [List.length_map, hl]) hc h
theorem still_load_arr (hgd : o.guard = none) (ty : TypeId) (x : Operand) (ho : o.op = .load ty x) (ad : Addr) (hx : a.eval x = .pointer (some ad)) (n : Nat) (ht : AggT P ty n) (l : List UInt8) (hl : l.length = n)
    (hc : Cells w ad (l.map U8)) {Q : Act → Prop} (h : wpStill P ops w Q rest (a.put o.dst (.agg (arr l)))) : wpStill P ops w Q (o :: rest) a :=
  still_load hgd ty x ho ad hx n ht _ (by rw [List.length_map, hl]) hc h
end
/-- The world under one name, with what is known of it. -/
theorem wp_name {c : Code} {Q : Exit → Act → World → Prop} {a : Act} (R : World → Prop) (h : R w) (k : ∀ w, R w → c.wp P Q a w) : c.wp P Q a w := k w h
theorem wpl_name {ops : Array Oper} {rest : List Oper} {Q : Exit → Act → World → Prop} {a : Act} (R : World → Prop) (h : R w) (k : ∀ w, R w → wpList P ops Q rest a w) : wpList P ops Q rest a w := k w h
/-- The result lies in a block that is an array of bytes. -/
theorem ret_arr {fn : Func} {p : Tmp} {ty : TypeId} {R : Ending → World → Prop} {a : Act} (h : fn.results = #[.cell p ty]) (g : Nat) (hp : a.tmps.getD p undef = .pointer (some ⟨g, 0, none⟩)) {n : Nat} (ht : AggT P ty n) (l : List UInt8) (hl : l.length = n)
    (hc : Cells w ⟨g, 0, none⟩ (l.map U8)) (hd : a.defers = []) (hR : R (.returned (.agg (arr l))) w) : bodyPost P fn R .ret a w := by
  refine bodyPost_ret (v := .agg (arr l)) ?_ hd hR
  have hp' : a.tmps[p]?.getD undef = .pointer (some ⟨g, 0, none⟩) := by simpa using hp
  have := run_loadVar_cells (P := P) (w := w) ht ⟨g, 0, none⟩ (l.map U8) (by rw [List.length_map, hl]) hc.is
  simp [results, h, hp', asAddr, this, arr]
end
theorem take_set_succ (xs : List Value) (m : Nat) (x : Value) (h : m < xs.length) : (xs.set m x).take (m + 1) = xs.take m ++ [x] := by
  apply List.ext_getElem?
  intro i
  simp only [List.getElem?_take, List.getElem?_set, List.getElem?_append, List.length_take]
  by_cases h1 : i < m
  · rw [if_pos (by omega), if_neg (by omega), if_pos (by omega), if_pos h1]
  · by_cases h2 : i = m
    · subst h2; rw [if_pos (by omega), if_pos rfl, if_pos h, if_neg (by omega)]; simp [show i - min i xs.length = 0 by omega]
    · rw [if_neg (by omega), if_neg (by omega), List.getElem?_eq_none (by simp; omega)]
theorem drop_set_past (xs : List Value) (m k : Nat) (x : Value) (h : m < k) : (xs.set m x).drop k = xs.drop k := by
  rw [List.drop_set]; rw [if_pos h]
theorem foldl_set (off : Nat) : ∀ (l : List Value) (k : Nat) (cells : Array Value), off + k + l.length ≤ cells.size →
    (l.zipIdx k).foldl (fun cs p => cs.setIfInBounds (off + p.2) p.1) cells = (cells.toList.take (off + k) ++ l ++ cells.toList.drop (off + k + l.length)).toArray
  | [], k, cells, _ => by simp
  | x :: l, k, cells, h => by
    rw [List.zipIdx_cons, List.foldl_cons, foldl_set off l (k + 1) _ (by simp at h ⊢; omega)]
    simp only [List.length_cons] at h
    simp only [Array.toList_setIfInBounds]
    rw [show off + (k + 1) = off + k + 1 from rfl, take_set_succ _ _ _ (by simp; omega), drop_set_past _ _ _ _ (by omega)]
    simp only [List.length_cons, List.append_assoc, List.cons_append, List.nil_append]
    rw [show off + k + 1 + l.length = off + k + (l.length + 1) by omega]
theorem fill_cons (place : Nat → Option (Nat × Nat)) (cells : Array Value) (i off size : Nat) (v : Value) (rest : List (Nat × Value)) (hp : place i = some (off, size)) (hs : v.cells.size = size) (hle : off + size ≤ cells.size) :
    Instr.fill place cells ((i, v) :: rest) = Instr.fill place (splice cells off v.cells.toList) rest := by
  rw [Instr.fill, hp]
  simp only []
  rw [if_neg (by simp; omega)]
  congr 1
  have := foldl_set off v.cells.toList 0 cells (by simp; omega)
  simp only [Nat.add_zero] at this
  rw [splice, ← this, ← Array.foldl_toList, Array.toList_zipIdx]
theorem wpl_build {P : Program} {w : World} {o : Oper} {a : Act} {Q : Exit → Act → World → Prop} {ops : Array Oper} {rest : List Oper} (hgd : o.guard = none) (t : TypeId) (parts : List (Nat × Operand)) (ho : o.op = .build t parts.toArray) (ps : List (Nat × Value))
    (hp : parts.map (fun p => (p.1, a.eval p.2)) = ps) (cells : Array Value) (hb : P.built t ps = some cells) (h : wpList P ops Q rest (a.put o.dst (.agg cells)) w) : wpList P ops Q (o :: rest) a w := by
  have e : (parts.toArray.map fun (i, x) => (i, a.eval x)).toList = ps := by rw [← hp]; simp
  exact wpList_build hgd t parts.toArray ho (by rw [e, hb]; rfl) (by rw [e, hb]; exact h)
theorem run_arrayAt {P : Program} {w : World} {arr : TypeId} {n : Nat} {e : TypeId} (hu : P.underlying arr = some (.array n e)) (a : Option Addr) (len cap : Nat) (h : n ≤ len) : (Instr.arrayAt arr (.slice a len cap)).run P w = .ok (.pointer a) w := by
  simp [Instr.arrayAt, run_underlying hu, Nat.not_lt.2 h]
theorem wpl_toArray {P : Program} {w : World} {o : Oper} {a : Act} {Q : Exit → Act → World → Prop} {ops : Array Oper} {rest : List Oper} (hgd : o.guard = none) (arr : TypeId) (x : Operand) (ho : o.op = .sliceToArrayPointer arr x) (b : Option Addr) (len cap : Nat) (hx : a.eval x = .slice b len cap)
    {n : Nat} {e : TypeId} (hu : P.underlying arr = some (.array n e)) (hle : n ≤ len) (h : wpList P ops Q rest (a.put o.dst (.pointer b)) w) : wpList P ops Q (o :: rest) a w :=
  wpList_plain hgd fun K hK => by
    have hr : (execOp a.eval o).run P w = .ok (.value (.pointer b)) w := by
      unfold execOp
      simp only [ho, hx]
      simp [run_arrayAt hu b len cap hle]
    unfold Oper.wp
    rw [hr]
    exact hK _ _ h
theorem still_build {P : Program} {w : World} {o : Oper} {a : Act} {ops : Array Oper} {rest : List Oper} (hgd : o.guard = none) (t : TypeId) (parts : List (Nat × Operand)) (ho : o.op = .build t parts.toArray) (ps : List (Nat × Value))
    (hp : parts.map (fun p => (p.1, a.eval p.2)) = ps) (cells : Array Value) (hb : P.built t ps = some cells) {Q : Act → Prop} (h : wpStill P ops w Q rest (a.put o.dst (.agg cells))) : wpStill P ops w Q (o :: rest) a :=
  wpStill_step fun K hK => by
    rw [if_pos (by simp [Region.wanted, hgd])]
    have e : (parts.toArray.map fun (i, x) => (i, a.eval x)).toList = ps := by rw [← hp]; simp
    have hr : (execOp a.eval o).run P w = .ok (.value (.agg cells)) w := by
      unfold execOp
      simp only [ho, Sem.run_bind, run_build w t _ cells (e ▸ hb), Result.andThen_ok, Sem.run_pure]
    unfold Oper.still
    rw [hr, Oper.stillUpon_value]
    exact hK _ h
theorem foldl_full (l : List Value) (cells : Array Value) (h : l.length = cells.size) : List.foldl (fun cs (x : Value × Nat) => cs.setIfInBounds x.2 x.1) cells l.zipIdx = l.toArray := by
  have := foldl_set 0 l 0 cells (by omega)
  simp only [Nat.zero_add] at this
  rw [this, h]; simp
end Go.Proofs.YtncaplplkfihgaaGreatDoor
