/-
  The walk of slices.Delete, from the beginning on.
-/
import Derived.Test.YtbcboldepghgpaaRecF
import Derived.Test.YtbcboldepghgpaaJa
set_option linter.unusedVariables false
set_option linter.unusedSimpArgs false
set_option maxRecDepth 100000
namespace Go.Proofs.Ytbcboldepghgpaa
open Go.RowKit
theorem run_appendIn (w : World) (ty : TypeId) (B g cap k : Nat) (l : List UInt8) (hown : OwnB w B (.slice (some ⟨g, 0, none⟩) k cap) l) (B' : Nat) (A : Option Addr) (m c : Nat) (ys : List UInt8) (hr : ReadsB w B' A m ys) (hfit : k + m ≤ cap) :
    ∃ w', (Builtin.append_ #[24, 24] ty #[.slice (some ⟨g, 0, none⟩) k cap, .slice A m c]).run Try.prog w = .ok (.slice (some ⟨g, 0, none⟩) (k + m) cap) w' ∧ OwnB w' B (.slice (some ⟨g, 0, none⟩) (k + m) cap) (l ++ ys) ∧ w.grownBy w' (some g) ∧ w'.heap.size = w.heap.size := by
  obtain ⟨i, hi, hz, hs, hb⟩ := info_parts u8_info
  have ht := Try.underlying24
  have hlen : l.length = k := by have := hown.reads_any.1; omega
  obtain ⟨hx, h2⟩ := hown.own
  rcases h2 with ⟨e, h0⟩ | ⟨g', cap', cur, e, hg, hh, hnc, hcm, hcs, htake⟩
  · cases e
  · injection e with e1 e2 e3
    injection e1 with e1
    injection e1 with e1
    subst e1 e3
    rw [hlen] at hnc htake
    cases A with
    | none =>
      have hm : m = 0 := by
        rcases Nat.eq_zero_or_pos m with h | h
        · exact h
        · obtain ⟨ad, e, _⟩ := hr.is.2 h; cases e
      subst hm
      have hy : ys = [] := List.eq_nil_of_length_eq_zero hr.len
      subst hy
      refine ⟨w, ?_, by rw [List.append_nil]; exact hown, World.grownBy.refl _ _, rfl⟩
      simp [Builtin.append_, run_underlying ht, sizeOf, typeInfo, hi, Builtin.lenOf, Builtin.firstCells, hnc, storeCells]
    | some ad =>
      have hcell : ∀ j u, (ys.map U8)[j]? = some u → w.cell? (ad.add j) = some u := fun j u hu => by
        rcases Nat.eq_zero_or_pos m with h | h
        · have hy : ys = [] := List.eq_nil_of_length_eq_zero (by rw [hr.len, h])
          subst hy; simp at hu
        · obtain ⟨ad', e, _, hc⟩ := hr.is.2 h
          injection e with e
          subst e
          exact hc j u hu
      have hfirst := run_firstCells_some (P := Try.prog) w 1 m ad m c (ys.map U8) (by simp [hr.len]) hcell
      have hst := run_storeCells_at Try.prog g k 5 (ys.map U8) 0 cur w hh (by simp [hr.len, hcs]; omega) (by simp [Value.oneCell'])
      simp only [Nat.add_zero] at hst
      refine ⟨w.setRow g (cur.toList.take k ++ ys.map U8 ++ cur.toList.drop (k + (ys.map U8).length)).toArray, ?_, ⟨?_⟩, ⟨rfl, rfl, rfl, by simp, fun j _ hj => setRow_other w g j _ (fun e => hj (by rw [e]))⟩, by simp⟩
      · simp [Builtin.append_, run_underlying ht, sizeOf, typeInfo, hi, hs, Builtin.lenOf, hfirst, hfit, Addr.add_lit]
        rw [hst]
        simp
      · rw [List.length_append, hlen, hr.len, List.map_append]
        refine ⟨by simp [hlen, hr.len], .inr ⟨g, cap, _, rfl, hg, setRow_heap w g cur _ _ _ hh, hfit, hcm, ?_, ?_⟩⟩
        · simp [hr.len]; omega
        · rw [Nat.mul_one] at htake ⊢
          rw [htake]
          exact List.take_left' (by simp [hlen, hr.len])
theorem run_clearB (w : World) (ty : TypeId) (B g cap k n c : Nat) (l : List UInt8) (hown : OwnB w B (.slice (some ⟨g, 0, none⟩) k cap) l) (hn : k + n ≤ cap) :
    ∃ w', (Builtin.clear_ #[24] ty #[.slice (some ⟨g, k, none⟩) n c]).run Try.prog w = .ok (.tuple #[]) w' ∧ OwnB w' B (.slice (some ⟨g, 0, none⟩) k cap) l ∧ w.grownBy w' (some g) ∧ w'.heap.size = w.heap.size := by
  obtain ⟨i, hi, hz, hs, hb⟩ := info_parts u8_info
  have ht := Try.underlying24
  have hlen : l.length = k := by have := hown.reads_any.1; omega
  obtain ⟨hx, h2⟩ := hown.own
  rcases h2 with ⟨e, h0⟩ | ⟨g', cap', cur, e, hg, hh, hnc, hcm, hcs, htake⟩
  · cases e
  · injection e with e1 e2 e3
    injection e1 with e1
    injection e1 with e1
    subst e1 e3
    rw [hlen] at hnc htake
    by_cases h0 : n = 0
    · subst h0
      refine ⟨w, ?_, hown, World.grownBy.refl _ _, rfl⟩
      simp [Builtin.clear_, run_underlying ht]
    · have hst := run_storeCells_at Try.prog g k 5 ((List.replicate n (0 : UInt8)).map U8) 0 cur w hh (by simp [hcs]; omega) (by simp [Value.oneCell'])
      simp only [Nat.add_zero] at hst
      refine ⟨w.setRow g (cur.toList.take k ++ (List.replicate n (0 : UInt8)).map U8 ++ cur.toList.drop (k + ((List.replicate n (0 : UInt8)).map U8).length)).toArray, ?_, ⟨?_⟩, ⟨rfl, rfl, rfl, by simp, fun j _ hj => setRow_other w g j _ (fun e => hj (by rw [e]))⟩, by simp⟩
      · have hz' : (Builtin.zeroCells (#[Value.int IntKind.u8 0] : Array Value) n).toList = (List.replicate n (0 : UInt8)).map U8 := by rw [zero_cells]
        simp [Builtin.clear_, run_underlying ht, zeroValue, typeInfo, hi, hz, Value.cells, h0]
        rw [hz', hst]
        simp
      · rw [hlen]
        refine ⟨by simp [hlen], .inr ⟨g, cap, _, rfl, hg, setRow_heap w g cur _ _ _ hh, hnc, hcm, ?_, ?_⟩⟩
        · simp; omega
        · rw [Nat.mul_one] at htake ⊢
          rw [htake, List.append_assoc]
          exact List.take_left' (by simp [hlen])
theorem grownBy_trans_ {w W W' : World} {z : Option Nat} (h : w.grownBy W z) (hg : W.grownBy W' z) : w.grownBy W' z :=
  ⟨hg.os.trans h.os, hg.tape.trans h.tape, hg.output.trans h.output, Nat.le_trans h.size hg.size, fun i hi hne => (hg.block i (Nat.lt_of_lt_of_le hi h.size) hne).trans (h.block i hi hne)⟩
theorem run_builtin {P : Program} {w : World} {o : Oper} {ρ : Operand → Value} {s x : Operand} {ats : Array TypeId} (ho : o.op = .call { callee := .builtin .append, args := #[s, x], argTypes := ats }) (u v : Value) (hs : ρ s = u) (hx : ρ x = v) (r : Value) (w2 : World) (h : (Builtin.append_ ats o.type #[u, v]).run P w = .ok r w2) : (execOp ρ o).run P w = .ok (.value r) w2 := by
  unfold execOp
  simp only [ho, resolve, invoke, builtin, Sem.run_bind, Sem.run_pure, Result.andThen_ok, List.map_toArray, List.map_cons, List.map_nil, hs, hx, h]
theorem run_clearO {P : Program} {w : World} {o : Oper} {ρ : Operand → Value} {s : Operand} {ats : Array TypeId} (ho : o.op = .call { callee := .builtin .clear, args := #[s], argTypes := ats }) (u : Value) (hs : ρ s = u) (r : Value) (w2 : World) (h : (Builtin.clear_ ats o.type #[u]).run P w = .ok r w2) : (execOp ρ o).run P w = .ok (.value r) w2 := by
  unfold execOp
  simp only [ho, resolve, invoke, builtin, Sem.run_bind, Sem.run_pure, Result.andThen_ok, List.map_toArray, List.map_cons, List.map_nil, hs, h]
theorem run_slice_mid {P : Program} {w : World} {o : Oper} {ρ : Operand → Value} {t e : TypeId} {x y z : Operand} (ho : o.op = .slice t x (some y) (some z) none) (ht : P.underlying t = some (.slice e)) (hs : (P.info? e).map (·.size) = some 1) (g k c lo hi : Nat)
    (hx : ρ x = .slice (some ⟨g, 0, none⟩) k c) (hy : ρ y = .int .i64 (lo : Int)) (hz : ρ z = .int .i64 (hi : Int)) (h1 : lo ≤ hi) (h2 : hi ≤ c) (h3 : lo < c) : (execOp ρ o).run P w = .ok (.value (.slice (some ⟨g, lo, none⟩) (hi - lo) (c - lo))) w := by
  have e1 : (lo : Int) ≤ (hi : Int) := by omega
  have e2 : (hi : Int) ≤ (c : Int) := by omega
  have e3 : (0 : Int) ≤ (lo : Int) := by omega
  have e4 : ¬ c = lo := by omega
  unfold execOp
  simp only [ho, hx, hy, hz]
  simp [go_sem, Instr.sliceAt, Instr.slice, Instr.sliceBounds, Instr.sliceBound, run_underlying ht, run_sizeOf hs, hy, hz, e1, e2, e3, e4, h1, h2, asIntOf, Addr.add_lit]
set_option maxHeartbeats 4000000 in
set_option maxRecDepth 100000 in
theorem delB_any (B g k c j : Nat) (l : List UInt8) (w : World) (ho : OwnB w B (.slice (some ⟨g, 0, none⟩) k c) l) (hj0 : 0 < j) (hj : j ≤ k) (hk : k ≤ 1000000) :
    Calls Try.prog 42 #[.slice (some ⟨g, 0, none⟩) k c, .int .i64 0, .int .i64 (j : Int)] w fun e w' => e = .returned (.slice (some ⟨g, 0, none⟩) (k - j) c) ∧ OwnB w' B (.slice (some ⟨g, 0, none⟩) (k - j) c) (l.drop j) ∧ w.grownBy w' (some g) ∧ w'.heap.size = w.heap.size := by
  have Hl := hd (show l.length = k by have := ho.reads_any.1; omega)
  have hroom := ho.room
  have t1 : (0 : Int) ≤ (j : Int) := by omega
  have t2 : (j : Int) ≤ (k : Int) := by omega
  have t3 : (k : Int) ≤ (c : Int) := by omega
  have t4 : ¬ (0 : Int) = (j : Int) := by omega
  obtain ⟨q, Hq⟩ : ∃ q, Hd (k - j = q) := ⟨_, ⟨rfl⟩⟩
  rw [Hq.out]
  obtain ⟨A2, HA2⟩ : ∃ x, Hd ((if c = j then (some ⟨g, 0, none⟩ : Option Addr) else (some ⟨g, 0, none⟩ : Option Addr).map (·.add j)) = x) := ⟨_, ⟨rfl⟩⟩
  have Hown := hd ho
  clear ho
  go_enter Try.func42, Try.ntmps42
  go_wp2
  refine v_start (S := PW) PR ((fun _ => True), fun W => OwnB W B (.slice (some ⟨g, 0, none⟩) k c) l ∧ w.grownBy W (some g) ∧ W.heap.size = w.heap.size) (by kernel_rfl) ⟨trivial, Hown.out.drew, grew_drew (World.grownBy.refl _ _), rfl⟩ ?_
  refine p_take 0 (o := _) rfl (by kernel_rfl) (by kernel_rfl) (by kernel_rfl) (wanted_plain rfl) (.slice (some ⟨g, 0, none⟩) k c) (fun _ _ _ h => h) (fun W hW => run_move (by rfl) (by simp [Act.eval]) W) ?_
  simp only [Act.put, List.getElem_toArray, List.getElem_cons_succ, List.getElem_cons_zero, List.setIfInBounds_toArray, List.set_cons_zero, List.set_cons_succ]
  refine p_take 1 (o := _) rfl (by kernel_rfl) (by kernel_rfl) (by kernel_rfl) (wanted_plain rfl) (.int .i64 0) (fun _ _ _ h => h) (fun W hW => run_move (by rfl) (by simp [Act.eval]) W) ?_
  simp only [Act.put, List.getElem_toArray, List.getElem_cons_succ, List.getElem_cons_zero, List.setIfInBounds_toArray, List.set_cons_zero, List.set_cons_succ]
  refine p_take 2 (o := _) rfl (by kernel_rfl) (by kernel_rfl) (by kernel_rfl) (wanted_plain rfl) (.slice (some ⟨g, 0, none⟩) 0 c) (fun _ _ _ h => h) (fun W hW => run_slice_to (by rfl) Try.underlying24 u8_cell1 (some ⟨g, 0, none⟩) k c 0 (by simp [Act.eval]) (by simp [Act.eval]) (Nat.zero_le _)) ?_
  simp only [Act.put, List.getElem_toArray, List.getElem_cons_succ, List.getElem_cons_zero, List.setIfInBounds_toArray, List.set_cons_zero, List.set_cons_succ]
  refine p_take 3 (o := _) rfl (by kernel_rfl) (by kernel_rfl) (by kernel_rfl) (wanted_plain rfl) (.slice (some ⟨g, 0, none⟩) k c) (fun _ _ _ h => h) (fun W hW => run_move (by rfl) (by simp [Act.eval]) W) ?_
  simp only [Act.put, List.getElem_toArray, List.getElem_cons_succ, List.getElem_cons_zero, List.setIfInBounds_toArray, List.set_cons_zero, List.set_cons_succ]
  refine p_take 4 (o := _) rfl (by kernel_rfl) (by kernel_rfl) (by kernel_rfl) (wanted_plain rfl) (.int .i64 (j : Int)) (fun _ _ _ h => h) (fun W hW => run_move (by rfl) (by simp [Act.eval]) W) ?_
  simp only [Act.put, List.getElem_toArray, List.getElem_cons_succ, List.getElem_cons_zero, List.setIfInBounds_toArray, List.set_cons_zero, List.set_cons_succ]
  refine p_take 5 (o := _) rfl (by kernel_rfl) (by kernel_rfl) (by kernel_rfl) (wanted_plain rfl) (.slice A2 (k - j) (c - j)) (fun _ _ _ h => h) (fun W hW => by rw [← HA2.out]; exact run_slice_from (by rfl) Try.underlying24 u8_cell1 (some ⟨g, 0, none⟩) k c j (by simp [Act.eval]) (by simp [Act.eval]) hj hroom) ?_
  simp only [Act.put, List.getElem_toArray, List.getElem_cons_succ, List.getElem_cons_zero, List.setIfInBounds_toArray, List.set_cons_zero, List.set_cons_succ]
  refine p_one 6 (by kernel_rfl) (fun W _ hX => ?_)
  obtain ⟨own, gr, hsz⟩ := hX
  have own0 : OwnB W B (.slice (some ⟨g, 0, none⟩) 0 c) [] := by have h := own.cut (Nat.zero_le k); rw [List.take_zero] at h; exact h
  have hrd : ReadsB W W.heap.size A2 (k - j) (l.drop j) := by rw [← HA2.out]; exact own.reads_any.2.drop hj hroom
  obtain ⟨W2, hrun, own2, gr2, sz2⟩ := run_appendIn W 24 B g c 0 [] own0 W.heap.size A2 (k - j) (c - j) (l.drop j) hrd (by omega)
  rw [List.nil_append, Nat.zero_add, Hq.out] at own2
  rw [Nat.zero_add, Hq.out] at hrun
  refine op_do (o := _) rfl (wanted_plain rfl) (.slice (some ⟨g, 0, none⟩) q c) W2 (run_builtin (by rfl) (.slice (some ⟨g, 0, none⟩) 0 c) (.slice A2 (k - j) (c - j)) (by simp [Act.eval]) (by simp [Act.eval]) _ _ (by rw [Hq.out]; exact hrun)) ?_
  refine Next.mk (fun _ => True) (fun W => OwnB W B (.slice (some ⟨g, 0, none⟩) q c) (l.drop j) ∧ w.grownBy W (some g) ∧ W.heap.size = w.heap.size) (fun _ _ => trivial) trivial ⟨own2, grownBy_trans_ gr gr2, by omega⟩ ?_
  clear own gr hsz own0 hrd hrun own2 gr2 sz2
  simp only [Act.put, List.getElem_toArray, List.getElem_cons_succ, List.getElem_cons_zero, List.setIfInBounds_toArray, List.set_cons_zero, List.set_cons_succ]
  refine p_take 7 (o := _) rfl (by kernel_rfl) (by kernel_rfl) (by kernel_rfl) (wanted_plain rfl) (.slice (some ⟨g, 0, none⟩) q c) (fun _ _ _ h => h) (fun W hW => run_assign (by rfl) (by simp [Act.eval]) W) ?_
  simp only [Act.put, List.getElem_toArray, List.getElem_cons_succ, List.getElem_cons_zero, List.setIfInBounds_toArray, List.set_cons_zero, List.set_cons_succ]
  refine (show ∀ z0, wpAnyV _ _ _ _ _ _ z0 _ _ _ from fun z0 => v_done (by kernel_rfl) (fun W1 H => ?_) z0) _
  obtain ⟨_, own, gr, hsz⟩ := H
  have hq := Hq.out
  obtain ⟨W3, hrun, own3, gr3, sz3⟩ := run_clearB W1 0 B g c q (k - q) (c - q) (l.drop j) own (by omega)
  go_wp2_with (first
    | (refine wpl_run (o := ⟨some 31, _, _, _, _, _⟩) (wanted_plain rfl) (.slice (some ⟨g, q, none⟩) (k - q) (c - q)) (run_slice_mid (by rfl) Try.underlying24 u8_cell1 g q c q k (by simp [Act.eval, Act.put]) (by simp [Act.eval, Act.put]) (by simp [Act.eval, Act.put]) (by omega) (by omega) (by omega)) ?_)
    | (at_builtin; refine wpl_run (o := ⟨none, _, _, _, _, _⟩) (wanted_plain rfl) (.tuple #[]) (run_clearO (by rfl) (.slice (some ⟨g, q, none⟩) (k - q) (c - q)) (by simp [Act.eval, Act.put]) _ _ hrun) ?_))
  go_ret
  exact ⟨rfl, own3, grownBy_trans_ gr gr3, by omega⟩
end Go.Proofs.Ytbcboldepghgpaa
