/-
  The walks of record's Feed, of layer 18's live question.
-/
import Derived.Test.YtbcboldepghgpaaRecE
import Derived.Test.YtbcboldepghgpaaJa
set_option linter.unusedVariables false
set_option linter.unusedSimpArgs false
set_option maxRecDepth 100000
namespace Go.Proofs.Ytbcboldepghgpaa
open Go.RowKit
namespace Rec
/-- All is as it was, but block z and block r. -/
structure Mv (w w' : World) (z : Nat) (r : Option Nat) : Prop where
  os : w'.os = w.os
  tape : w'.tape = w.tape
  output : w'.output = w.output
  size : w.heap.size ≤ w'.heap.size
  block : ∀ i, i < w.heap.size → i ≠ z → some i ≠ r → w'.heap[i]? = w.heap[i]?
theorem Mv.refl (w : World) (z : Nat) (r : Option Nat) : Mv w w z r := ⟨rfl, rfl, rfl, Nat.le_refl _, fun _ _ _ _ => rfl⟩
theorem Mv.below {w w' : World} {z : Nat} {r : Option Nat} {B : Nat} {w0 : World} (h : Mv w w' z r) (hb : Below B w0 w) (hz : B ≤ z) (hr : ∀ g, r = some g → B ≤ g) (hs : B ≤ w.heap.size) : Below B w0 w' :=
  hb.trans ⟨h.os, h.tape, h.output, by have := h.size; omega, fun k hk => h.block k (by omega) (by omega) (fun e => by have := hr _ e.symm; omega)⟩
theorem Mv.of_below {w w' : World} (z : Nat) (r : Option Nat) (h : Below w.heap.size w w') : Mv w w' z r := ⟨h.os, h.tape, h.output, h.size, fun i hi _ _ => h.block i hi⟩
theorem Mv.blk {w w' : World} {z g : Nat} {r : Option Nat} {t : TypeId} {cs : Array Value} (h : Mv w w' z r) (hb : Blk w g t cs) (hz : g ≠ z) (hr : some g ≠ r) : Blk w' g t cs := ⟨(h.block g hb.lt hz hr).trans hb.is⟩
theorem Mv.set_ {w w' : World} {z : Nat} {r : Option Nat} (h : Mv w w' z r) (i : Nat) (u : Value) : Mv w (w'.setCell ⟨z, i, none⟩ u) z r :=
  ⟨h.os, h.tape, h.output, by simpa using h.size, fun k hk hz hr => (Below.heap_setCell w' ⟨z, i, none⟩ u k hz).trans (h.block k hk hz hr)⟩
theorem Mv.own {w w' : World} {z B : Nat} {r : Option Nat} {v : Value} {l : List UInt8} (h : Mv w w' z r) (ho : OwnB w B v l) (hz : v.ownBlock ≠ some z) (hr : v.ownBlock ≠ r ∨ v.ownBlock = none) : OwnB w' B v l := by
  rcases ho.size with h1 | ⟨g, h1, _, hlt⟩
  · rcases ho.own.2 with ⟨e, h0⟩ | ⟨g', cap, cur, e, _⟩
    · exact ⟨ho.own.1, .inl ⟨e, h0⟩⟩
    · rw [e] at h1; cases h1
  · have hg : w'.heap[g]? = w.heap[g]? := h.block g hlt (fun e => hz (by rw [h1, e])) (fun e => by
      rcases hr with hr | hr
      · exact hr (by rw [h1, e])
      · rw [h1] at hr; cases hr)
    rcases ho.own.2 with ⟨e, h0⟩ | ⟨g', cap, cur, e, h3, h4, h5⟩
    · exact ⟨ho.own.1, .inl ⟨e, h0⟩⟩
    · have : g' = g := by rw [e] at h1; simpa [Value.ownBlock] using h1
      subst this
      exact ⟨ho.own.1, .inr ⟨g', cap, cur, e, h3, hg.trans h4, h5⟩⟩
theorem fieldR (z : Nat) (k : Nat) (hk : k < 5) (w : World) : (Instr.fieldAt 84 (.pointer (some ⟨z, 0, none⟩)) k).run Try.prog w = .ok (.pointer (some ⟨z, k, none⟩)) w := by
  rcases (show k = 0 ∨ k = 1 ∨ k = 2 ∨ k = 3 ∨ k = 4 by omega) with rfl | rfl | rfl | rfl | rfl <;> kernel_rfl
theorem run_store_sl {w : World} {o : Oper} {ρ : Operand → Value} {x y : Operand} (ho : o.op = .store 24 x y) (g i : Nat) (A : Option Addr) (n c : Nat) (hx : ρ x = .pointer (some ⟨g, i, none⟩)) (hy : ρ y = .slice A n c) (t : TypeId) (cs : Array Value) (hb : Blk w g t cs) (hi : i < cs.size) : (execOp ρ o).run Try.prog w = .ok .skip (w.setCell ⟨g, i, none⟩ (.slice A n c)) := by
  have hc : w.cell? ⟨g, i, none⟩ = some cs[i] := by rw [hb.cell, Array.getElem?_eq_getElem hi]
  have hf := hb.frozen i
  have hs : (Try.prog.info? 24).map (·.size) = some 1 := by kernel_rfl
  unfold execOp
  simp only [ho, hx, hy]
  simp [go_sem, hc, hf, Instr.storeAt, Instr.sureAddr, storeVar, run_sizeOf hs, Value.cells, storeCells]
end Rec
theorem x_startX {P : Program} {ops : Array Oper} {Q : Exit → Act → World → Prop} {a : Act} {w : World} (l : Nat) (g x : World → Prop) {id : Nat} (hm : P.follows .mixedOrders = true) (hS : g w.drew) (hX : x w.drew) (h : wpAnyX P .any ops Q PW PR l ops.size (Array.replicate ops.size false) a (g, x)) : (Code.region id ops true).wp P Q a w :=
  wp_region_any hm (wpAny_of_x _ _ _ _ h _ ⟨hS, hX⟩)
theorem op_appendBX {P : Program} {K : Act → World → Prop} {Q : Exit → Act → World → Prop} {ops : Array Oper} {o : Oper} {a : Act} {w : World} {i : Nat} (hP : P = Try.prog) (hi : ops[i]? = some o) (hw : Region.wanted o (yielded ops a.tmps) = true) (s x : Operand)
    (ho : o.op = .call { callee := .builtin .append, args := #[s, x], argTypes := #[24, 24] })
    (B : Nat) (v : Value) (l : List UInt8) (hs : a.eval s = v) (hown : OwnB w B v l) (B' : Nat) (A : Option Addr) (m c : Nat) (ys : List UInt8) (hx : a.eval x = .slice A m c) (hr : ReadsB w B' A m ys)
    (hlen : l.length + ys.length ≤ 140737488355328) (hB : B ≤ w.heap.size)
    (h : ∀ v' w', OwnB w' B v' (l ++ ys) → w.grownBy w' v.ownBlock → (v'.ownBlock = v.ownBlock ∨ v'.ownBlock = some w.heap.size) → K (a.put o.dst v') w') : wpOp P ops Q i K a w := op_appendB hP hi hw s x ho B v l hs hown B' A m c ys hx hr hlen hB h
set_option maxHeartbeats 8000000 in
set_option maxRecDepth 100000 in
theorem Rec.feed_any (gr : Nat) (L : Value) (A : Option Addr) (c : Nat) (h : List UInt8) (k : Nat) (skip : Int) (quiet : Bool) (D : Option Addr) (m d : Nat) (b : List UInt8) (n : Nat) (w : World)
    (hr : Blk w gr 84 (Rec.rdc L (.slice A k c) skip quiet 0)) (ho : OwnB w 0 (.slice A k c) h) (hb : ReadsB w w.heap.size D m b) (hmd : m ≤ d) (hm : m ≤ 140737488355328) (hk : h.length = k) (hk2 : k ≤ 16645) (hn : n = min m (16645 - k)) :
    Calls Try.prog 23 #[.pointer (some ⟨gr, 0, none⟩), .slice D m d] w fun e w' => e = .returned (.int .i64 (n : Int)) ∧ ∃ A' c', Blk w' gr 84 (Rec.rdc L (.slice A' (k + n) c') skip quiet 0) ∧ OwnB w' 0 (.slice A' (k + n) c') (h ++ b.take n) ∧ Rec.Mv w w' gr (Value.ownBlock (.slice A k c)) ∧ (Value.ownBlock (.slice A' (k + n) c') = Value.ownBlock (.slice A k c) ∨ Value.ownBlock (.slice A' (k + n) c') = some w.heap.size) := by
  have Hk := hd hk
  have Hn := hd (show n ≤ m ∧ n ≤ 16645 - k by omega)
  have w1 : IntKind.i64.wrap (16645 - (k : Int)) = 16645 - (k : Int) := IntWalk.i64_in _ (by omega)
  have Hni := hd (show ((n : Nat) : Int) = min (m : Int) (16645 - (k : Int)) by omega)
  have c1 : w.cell? ⟨gr, 1, none⟩ = some (.slice A k c) := hr.cell 1
  have c4 : w.cell? ⟨gr, 4, none⟩ = some (.int .i64 0) := hr.cell 4
  have Lb := hd hb.len
  clear hn
  go_enter Try.func23, Try.ntmps23
  go_wp2_with (first
    | (refine wpl_run (o := ⟨some 19, _, _, _, _, _⟩) (wanted_plain rfl) (.int .i64 (n : Int)) (Rec.run_minI (by rfl) (m : Int) (16645 - (k : Int)) (n : Int) (by simp [Act.eval, Act.put]) (by simp [Act.eval, Act.put, w1]) Hni.out) ?_))
  refine x_startX 11 (fun W => Blk W gr 84 (Rec.rdc L (.slice A k c) skip quiet 0)) (fun W => OwnB W 0 (.slice A k c) h ∧ Below w.heap.size w W ∧ W.heap.size = w.heap.size) (by kernel_rfl) hr.drew ⟨ho.drew, (Below.refl _ _).drew, rfl⟩ ?_
  refine x_take 0 (o := _) rfl (by kernel_rfl) (by kernel_rfl) (by kernel_rfl) (by kernel_rfl) (wanted_plain rfl) (.pointer (some ⟨gr, 0, none⟩)) (fun _ _ _ h => h) (fun W hW => run_move (by rfl) (by simp [Act.eval]) W) ?_
  simp only [Act.put, List.getElem_toArray, List.getElem_cons_succ, List.getElem_cons_zero, List.setIfInBounds_toArray, List.set_cons_zero, List.set_cons_succ]
  refine x_take 1 (o := _) rfl (by kernel_rfl) (by kernel_rfl) (by kernel_rfl) (by kernel_rfl) (wanted_plain rfl) (.pointer (some ⟨gr, 0, none⟩)) (fun _ _ _ h => h) (fun W hW => run_move (by rfl) (by simp [Act.eval]) W) ?_
  simp only [Act.put, List.getElem_toArray, List.getElem_cons_succ, List.getElem_cons_zero, List.setIfInBounds_toArray, List.set_cons_zero, List.set_cons_succ]
  refine x_take 2 (o := _) rfl (by kernel_rfl) (by kernel_rfl) (by kernel_rfl) (by kernel_rfl) (wanted_plain rfl) (.pointer (some ⟨gr, 0, none⟩)) (fun _ _ _ h => h) (fun W hW => Rec.run_nilCheck' (by rfl) (by simp [Act.eval])) ?_
  simp only [Act.put, List.getElem_toArray, List.getElem_cons_succ, List.getElem_cons_zero, List.setIfInBounds_toArray, List.set_cons_zero, List.set_cons_succ]
  refine x_take 3 (o := _) rfl (by kernel_rfl) (by kernel_rfl) (by kernel_rfl) (by kernel_rfl) (wanted_plain rfl) (.pointer (some ⟨gr, 1, none⟩)) (fun _ _ _ h => h) (fun W hW => run_fieldAddr (by rfl) (by simp [Act.eval]) (Rec.fieldR gr 1 (by omega))) ?_
  simp only [Act.put, List.getElem_toArray, List.getElem_cons_succ, List.getElem_cons_zero, List.setIfInBounds_toArray, List.set_cons_zero, List.set_cons_succ]
  refine x_take 4 (o := _) rfl (by kernel_rfl) (by kernel_rfl) (by kernel_rfl) (by kernel_rfl) (wanted_plain rfl) (.slice A k c) (fun _ _ _ h => h) (fun W hW => Rec.run_load_c Rec.na_bytes (by rfl) _ _ (by simp [Act.eval]) (hW.cell 1)) ?_
  simp only [Act.put, List.getElem_toArray, List.getElem_cons_succ, List.getElem_cons_zero, List.setIfInBounds_toArray, List.set_cons_zero, List.set_cons_succ]
  refine x_take 5 (o := _) rfl (by kernel_rfl) (by kernel_rfl) (by kernel_rfl) (by kernel_rfl) (wanted_plain rfl) (.slice D m d) (fun _ _ _ h => h) (fun W hW => run_move (by rfl) (by simp [Act.eval]) W) ?_
  simp only [Act.put, List.getElem_toArray, List.getElem_cons_succ, List.getElem_cons_zero, List.setIfInBounds_toArray, List.set_cons_zero, List.set_cons_succ]
  refine x_take 6 (o := _) rfl (by kernel_rfl) (by kernel_rfl) (by kernel_rfl) (by kernel_rfl) (wanted_plain rfl) (.int .i64 (n : Int)) (fun _ _ _ h => h) (fun W hW => run_move (by rfl) (by simp [Act.eval]) W) ?_
  simp only [Act.put, List.getElem_toArray, List.getElem_cons_succ, List.getElem_cons_zero, List.setIfInBounds_toArray, List.set_cons_zero, List.set_cons_succ]
  refine x_take 7 (o := _) rfl (by kernel_rfl) (by kernel_rfl) (by kernel_rfl) (by kernel_rfl) (wanted_plain rfl) (.slice D n d) (fun _ _ _ h => h) (fun W hW => run_slice_to (by rfl) Try.underlying24 u8_one D m d n (by simp [Act.eval]) (by simp [Act.eval]) (by have := Hn.out; omega)) ?_
  simp only [Act.put, List.getElem_toArray, List.getElem_cons_succ, List.getElem_cons_zero, List.setIfInBounds_toArray, List.set_cons_zero, List.set_cons_succ]
  have hob : ReadsB w w.heap.size D n (b.take n) := hb.take Hn.out.1
  have Hown := hd ho
  clear ho
  refine x_one 8 (by kernel_rfl) (fun W hW hX => ?_)
  obtain ⟨own, hB, hSz⟩ := hX
  have hrd : ReadsB W W.heap.size D n (b.take n) := ⟨hob.len, (hob.is.below hB).more hB.size⟩
  refine op_appendBX rfl rfl (wanted_plain rfl) _ _ rfl 0 (.slice A k c) h (by simp [Act.eval]) own W.heap.size D n d (b.take n) (by simp [Act.eval]) hrd (by rw [Hk.out, hob.len]; have := Hn.out; omega) (Nat.zero_le _) ?_
  intro v2 W2 own2 gr2 at2
  obtain ⟨A2, c2, e2⟩ := own2.slice
  rw [show (h ++ b.take n).length = k + n by rw [List.length_append, hob.len, Hk.out]] at e2
  subst e2
  have hX2 : OwnB W2 0 (.slice A2 (k + n) c2) (h ++ b.take n) ∧ Rec.Mv w W2 gr (Value.ownBlock (.slice A k c)) ∧ (Value.ownBlock (.slice A2 (k + n) c2) = Value.ownBlock (.slice A k c) ∨ Value.ownBlock (.slice A2 (k + n) c2) = some w.heap.size) :=
    ⟨own2, ⟨gr2.os.trans hB.os, gr2.tape.trans hB.tape, gr2.output.trans hB.output, Nat.le_trans hB.size gr2.size, fun i hi _ hr => (gr2.block i (Nat.lt_of_lt_of_le hi hB.size) hr).trans (hB.block i hi)⟩, by rw [← hSz]; exact at2⟩
  refine NextX.mk (fun W => Blk W gr 84 (Rec.rdc L (.slice A k c) skip quiet 0)) (fun W => OwnB W 0 (.slice A2 (k + n) c2) (h ++ b.take n) ∧ Rec.Mv w W gr (Value.ownBlock (.slice A k c)) ∧ (Value.ownBlock (.slice A2 (k + n) c2) = Value.ownBlock (.slice A k c) ∨ Value.ownBlock (.slice A2 (k + n) c2) = some w.heap.size)) (fun _ h => h) (hW.appended own gr2 (by decide)) hX2 ?_
  clear hX2 hW own gr2 at2 own2 hB hrd hSz
  simp only [Act.put, List.getElem_toArray, List.getElem_cons_succ, List.getElem_cons_zero, List.setIfInBounds_toArray, List.set_cons_zero, List.set_cons_succ]
  refine x_one 9 (by kernel_rfl) (fun W hW hX => ?_)
  refine op_do (o := _) rfl (wanted_plain rfl) (.pointer (some ⟨gr, 0, none⟩)) W (Rec.run_nilCheck' (by rfl) (by simp [Act.eval])) ?_
  refine NextX.mk (fun W => Blk W gr 84 (Rec.rdc L (.slice A k c) skip quiet 0)) (fun W => OwnB W 0 (.slice A2 (k + n) c2) (h ++ b.take n) ∧ Rec.Mv w W gr (Value.ownBlock (.slice A k c)) ∧ (Value.ownBlock (.slice A2 (k + n) c2) = Value.ownBlock (.slice A k c) ∨ Value.ownBlock (.slice A2 (k + n) c2) = some w.heap.size)) (fun _ h => h) hW hX ?_
  clear hW hX
  simp only [Act.put, List.getElem_toArray, List.getElem_cons_succ, List.getElem_cons_zero, List.setIfInBounds_toArray, List.set_cons_zero, List.set_cons_succ]
  refine x_one 10 (by kernel_rfl) (fun W hW hX => ?_)
  refine op_do (o := _) rfl (wanted_plain rfl) (.pointer (some ⟨gr, 1, none⟩)) W (run_fieldAddr (by rfl) (by simp [Act.eval]) (Rec.fieldR gr 1 (by omega))) ?_
  refine NextX.mk (fun W => Blk W gr 84 (Rec.rdc L (.slice A k c) skip quiet 0)) (fun W => OwnB W 0 (.slice A2 (k + n) c2) (h ++ b.take n) ∧ Rec.Mv w W gr (Value.ownBlock (.slice A k c)) ∧ (Value.ownBlock (.slice A2 (k + n) c2) = Value.ownBlock (.slice A k c) ∨ Value.ownBlock (.slice A2 (k + n) c2) = some w.heap.size)) (fun _ h => h) hW hX ?_
  clear hW hX
  simp only [Act.put, List.getElem_toArray, List.getElem_cons_succ, List.getElem_cons_zero, List.setIfInBounds_toArray, List.set_cons_zero, List.set_cons_succ]
  refine x_last (by kernel_rfl) (by kernel_rfl) (fun W hW hX => ?_) _
  refine op_skip (o := _) rfl (wanted_plain rfl) _ (Rec.run_store_sl (by rfl) gr 1 A2 (k + n) c2 (by simp [Act.eval]) (by simp [Act.eval]) 84 _ hW (by show 1 < 5; omega)) ?_
  obtain ⟨own3, mv3, at3⟩ := hX
  have hW3 := hW.set_ 1 (.slice A2 (k + n) c2)
  have own4 := own3.far (p := ⟨gr, 1, none⟩) (own_blk_ne own3.own hW (by decide)) (.slice A2 (k + n) c2)
  have mv4 := mv3.set_ 1 (.slice A2 (k + n) c2)
  clear hW own3 mv3
  simp only [Act.put, List.getElem_toArray, List.getElem_cons_succ, List.getElem_cons_zero, List.setIfInBounds_toArray, List.set_cons_zero, List.set_cons_succ]
  go_wp2
  go_ret
  exact ⟨rfl, A2, c2, hW3, own4, mv4, at3⟩
end Go.Proofs.Ytbcboldepghgpaa
