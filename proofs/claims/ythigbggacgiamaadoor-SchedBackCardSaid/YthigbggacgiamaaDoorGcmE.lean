/-
  The walks of what locks up: begun, stream, tag.
-/
import Derived.Test.YthigbggacgiamaaDoorGcmD
import Derived.Test.YthigbggacgiamaaDoorAesF
import Derived.Test.YthigbggacgiamaaDoorStreamA
set_option linter.unusedVariables false
set_option linter.unusedSimpArgs false
set_option maxRecDepth 100000
namespace Go.Proofs.YthigbggacgiamaaDoor
open Go.RowKit
/-- The cells of a gcm.locked. -/
def lkCells (p : Value) (l : List UInt8) : Array Value := #[p] ++ arr l
theorem lk_list (p : Value) (l : List UInt8) : (lkCells p l).toList = p :: l.map U8 := by rw [lkCells, Array.toList_append]; rfl
theorem lk_back (p : Value) (l : List UInt8) : (p :: l.map U8).toArray = lkCells p l := by rw [← lk_list, Array.toArray_toList]
theorem lk_size (p : Value) (l : List UInt8) : (lkCells p l).size = l.length + 1 := by rw [lkCells, Array.size_append, arr_size]; simp; omega
theorem lk_get0 (p : Value) (l : List UInt8) : (lkCells p l)[0]? = some p := head_cell p l
theorem lk_get (p : Value) (l : List UInt8) (i : Nat) : (lkCells p l)[1 + i]? = (l.map U8)[i]? := by
  rw [← Array.getElem?_toList, lk_list, Nat.add_comm, List.getElem?_cons_succ]
theorem lk_set (p : Value) (l : List UInt8) (i : Nat) (x : UInt8) : (lkCells p l).setIfInBounds (1 + i) (.int .u8 (n8 x)) = lkCells p (l.set i x) := by
  apply Array.ext'
  rw [Array.toList_setIfInBounds, lk_list, lk_list, Nat.add_comm, List.set_cons_succ, List.map_set]
theorem ty_lk : AggT Tryd.prog 102 17 := ⟨by kernel_rfl, by kernel_rfl⟩
theorem zero_lk : (Tryd.prog.info? 102).bind (·.zero) = some (.agg (lkCells (.pointer none) (List.replicate 16 0))) := by kernel_rfl
theorem built_lk0 (parts : List (Nat × Value)) : Tryd.prog.built 102 parts = Instr.fill (fun i => (#[(0, 1), (1, 16)] : Array (Nat × Nat))[i]?) (lkCells (.pointer none) (List.replicate 16 0)) parts := by kernel_rfl
theorem built_lk (p : Value) (hp : p.cells = #[p]) : Tryd.prog.built 102 [(0, p)] = some (lkCells p (List.replicate 16 0)) := by
  rw [built_lk0, fill_cons _ _ 0 0 1 _ _ rfl (by rw [hp]; rfl) (by rw [lk_size]; simp), Instr.fill, hp]
  congr 1
theorem built16 : Tryd.prog.built 87 [] = some (arr (List.replicate 16 0)) := by kernel_rfl
theorem Blk.lk_at {w : World} {g : Nat} {t : TypeId} {p : Value} {l : List UInt8} (h : Blk w g t (lkCells p l)) : Cells w ⟨g, 1, none⟩ (l.map U8) := h.cells_at 1 _ (fun j v hv => by rw [lk_get]; exact hv)
theorem Blk.lk_all {w : World} {g : Nat} {t : TypeId} {p : Value} {l : List UInt8} (h : Blk w g t (lkCells p l)) : Cells w ⟨g, 0, none⟩ (p :: l.map U8) := h.cells_at 0 _ (fun j v hv => by rw [Nat.zero_add, ← Array.getElem?_toList, lk_list]; exact hv)
section
variable {w : World} {o : Oper} {a : Act} {Q : Exit → Act → World → Prop} {ops : Array Oper} {rest : List Oper}
theorem wpl_load_lk (hgd : o.guard = none) (x : Operand) (ho : o.op = .load 102 x) (g : Nat) (hx : a.eval x = .pointer (some ⟨g, 0, none⟩)) (t : TypeId) (p : Value) (l : List UInt8) (hl : l.length = 16) (hb : Blk w g t (lkCells p l))
    (h : wpList Tryd.prog ops Q rest (a.put o.dst (.agg (lkCells p l))) w) : wpList Tryd.prog ops Q (o :: rest) a w :=
  wpl_load hgd _ x ho _ hx 17 ty_lk (p :: l.map U8) (by simp [hl]) hb.lk_all (by rw [lk_back]; exact h)
theorem wpl_store_lk (hgd : o.guard = none) (x y : Operand) (ho : o.op = .store 102 x y) (g : Nat) (p : Value) (hp : p.oneCell' = true) (l : List UInt8) (hl : l.length = 16) (hx : a.eval x = .pointer (some ⟨g, 0, none⟩)) (hy : a.eval y = .agg (lkCells p l))
    (t : TypeId) (cs : Array Value) (hc : cs.size = 17) (hb : Blk w g t cs) (h : wpList Tryd.prog ops Q rest (a.put o.dst undef) (w.setRow g (lkCells p l))) : wpList Tryd.prog ops Q (o :: rest) a w := by
  refine wpl_store hgd _ x y ho g 0 (p :: l.map U8) hx (by rw [lk_back]; exact hy) t _ hb (by rw [ty_lk.size]; simp [hl]) (by simp [hl, hc]) (by
    intro v hv
    rcases List.mem_cons.1 hv with rfl | hv
    · exact hp
    · obtain ⟨x, _, rfl⟩ := List.mem_map.1 hv; rfl) ?_
  rw [splice_all cs _ (by simp [hl, hc]), lk_back]
  exact h
/-- The nonce copied to where a locked's first block begins. -/
theorem wpl_copy_lk (hgd : o.guard = none) (d s : Operand) (ho : o.op = .call { callee := .builtin .copy, args := #[d, s], argTypes := #[30, 30] })
    (g : Nat) (t : TypeId) (p : Value) (l : List UInt8) (hl : l.length = 16) (hd : a.eval d = .slice (some ⟨g, 1, none⟩) 16 16) (hb : Blk w g t (lkCells p l)) (ad : Addr) (nonce : List UInt8) (hn : nonce.length = 12) (hs : a.eval s = .slice (some ad) 12 12) (hc : Cells w ad (nonce.map U8))
    (h : wpList Tryd.prog ops Q rest (a.put o.dst (.int .i64 12)) (w.setRow g (lkCells p (nonce ++ l.drop 12)))) : wpList Tryd.prog ops Q (o :: rest) a w := by
  have hrun := run_copy_row (P := Tryd.prog) w 30 30 o.type 5 g 1 16 16 ad 12 12 (lkCells p l) t (nonce.map U8) Tryd.underlying30 u8_one hb.is (by rw [List.length_map, hn]; rfl) hc.is (by rw [lk_size, List.length_map, hn, hl]; omega) (by intro v hv; obtain ⟨x, _, rfl⟩ := List.mem_map.1 hv; rfl)
  refine wpList_plain hgd fun K hK => ?_
  unfold Oper.wp execOp
  simp only [ho, resolve, invoke, builtin, Sem.run_bind, Sem.run_pure, Result.andThen_ok, List.map_toArray, List.map_cons, List.map_nil, hd, hs, hrun]
  have e1 : goInt (nonce.map U8).length = .int .i64 12 := by rw [List.length_map, hn]; rfl
  have e2 : ((lkCells p l).toList.take 1 ++ nonce.map U8 ++ (lkCells p l).toList.drop (1 + (nonce.map U8).length)).toArray = lkCells p (nonce ++ l.drop 12) := by
    rw [lk_list, List.length_map, hn, ← lk_back, List.map_append, List.map_drop]; rfl
  rw [e1, e2]
  exact hK _ _ h
theorem ret_lk {fn : Func} {p q : Tmp} {R : Ending → World → Prop} (h : fn.results = #[.cell p 102, .tmp q]) (g : Nat) (hp : a.tmps.getD p undef = .pointer (some ⟨g, 0, none⟩)) (v : Value) (hq : a.tmps.getD q undef = v) (t : TypeId) (k : Value) (l : List UInt8) (hl : l.length = 16)
    (hb : Blk w g t (lkCells k l)) (hd : a.defers = []) (hR : R (.returned (.tuple #[.agg (lkCells k l), v])) w) : bodyPost Tryd.prog fn R .ret a w := by
  refine bodyPost_ret (v := .tuple #[.agg (lkCells k l), v]) ?_ hd hR
  have hp' : a.tmps[p]?.getD undef = .pointer (some ⟨g, 0, none⟩) := by simpa using hp
  have hq' : a.tmps[q]?.getD undef = v := by simpa using hq
  have := run_loadVar_cells (P := Tryd.prog) (w := w) ty_lk ⟨g, 0, none⟩ (k :: l.map U8) (by simp [hl]) hb.lk_all.is
  rw [lk_back] at this
  simp [results, h, hp', hq', asAddr, this]
end
end Go.Proofs.YthigbggacgiamaaDoor
