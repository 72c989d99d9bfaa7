/-
  The walk of a block taken into a state.
-/
import Derived.Test.YtbcboldepghgpaaGreatDoorShaA
import Derived.Test.YtbcboldepghgpaaGreatDoorShaL
import Derived.Test.YtbcboldepghgpaaGreatDoorHeldV
import Derived.BigQuiet
import Derived.BigRegion
import Derived.Deep.QuietTactic
set_option linter.unusedVariables false
set_option linter.unusedSimpArgs false
set_option maxRecDepth 100000
namespace Go.Proofs.YtbcboldepghgpaaGreatDoor
open Go.RowKit
/-- Below block B all is as it was, but block g. -/
structure Kept (B g : Nat) (w w' : World) : Prop where
  os : w'.os = w.os
  tape : w'.tape = w.tape
  output : w'.output = w.output
  size : w.heap.size ≤ w'.heap.size
  block : ∀ k, k < B → k ≠ g → w'.heap[k]? = w.heap[k]?
section
variable {B g : Nat} {w w' w'' : World}
theorem Kept.refl (B g : Nat) (w : World) : Kept B g w w := ⟨rfl, rfl, rfl, Nat.le_refl _, fun _ _ _ => rfl⟩
theorem Kept.trans (h : Kept B g w w') (h' : Kept B g w' w'') : Kept B g w w'' := ⟨h'.os.trans h.os, h'.tape.trans h.tape, h'.output.trans h.output, Nat.le_trans h.size h'.size, fun k hk hg => (h'.block k hk hg).trans (h.block k hk hg)⟩
theorem below_kept {B' : Nat} (h : Below B' w w') (hB : B ≤ B') : Kept B g w w' := ⟨h.os, h.tape, h.output, h.size, fun k hk _ => h.block k (by omega)⟩
theorem grown_kept {row : Option Nat} (h : w.grownBy w' row) (hr : ∀ k, row = some k → B ≤ k ∨ k = g) (hB : B ≤ w.heap.size) : Kept B g w w' :=
  ⟨h.os, h.tape, h.output, h.size, fun k hk hg => h.block k (by omega) (fun e => by rcases hr k e.symm with h1 | h1 <;> omega)⟩
theorem Kept.grown (h : Kept w.heap.size g w w') : w.grownBy w' (some g) := ⟨h.os, h.tape, h.output, h.size, fun k hk hg => h.block k hk (fun e => hg (by rw [e]))⟩
theorem Blk.kept {z : Nat} {t : TypeId} {cs : Array Value} (h : Blk w z t cs) (hk : Kept B g w w') (hz : z < B) (hne : z ≠ g) : Blk w' z t cs := ⟨(hk.block z hz hne).trans h.is⟩
end
theorem run_subI {P : Program} {w : World} {o : Oper} {ρ : Operand → Value} {x y : Operand} {t rt : TypeId} (ho : o.op = .binOp .sub t x y rt) (i j k : Int) (hx : ρ x = .int .i64 i) (hy : ρ y = .int .i64 j) (hk : IntKind.i64.wrap (i - j) = k) : (execOp ρ o).run P w = .ok (.value (.int .i64 k)) w := by
  subst hk
  unfold execOp
  simp only [ho, hx, hy]
  simp [go_sem]
theorem sub_nat (n k m : Nat) (h : n = m + k) (hn : n < 9223372036854775808) : IntKind.i64.wrap ((n : Int) - (k : Int)) = (m : Int) := by
  have e : (n : Int) - (k : Int) = (m : Int) := by omega
  rw [e]; exact IntWalk.i64_in _ (by omega)
theorem field_kind (z : Nat) (i : Nat) (o : Nat) (h : (i, o) = (0, 0) ∨ (i, o) = (1, 1) ∨ (i, o) = (2, 4) ∨ (i, o) = (3, 7) ∨ (i, o) = (4, 10)) (w : World) : (Instr.fieldAt 92 (.pointer (some ⟨z, 0, none⟩)) i).run Tryz.prog w = .ok (.pointer (some ⟨z, o, none⟩)) w := by
  rcases h with h | h | h | h | h <;> (injection h with h1 h2; subst h1; subst h2; kernel_rfl)
theorem agg3 : AggT Tryz.prog 90 3 := ⟨by kernel_rfl, by kernel_rfl⟩
theorem run_fieldAddr {P : Program} {w : World} {o : Oper} {ρ : Operand → Value} {t : TypeId} {x : Operand} {i : Nat} {v r : Value} (ho : o.op = .fieldAddr t x i) (hx : ρ x = v) (h : ∀ w, (Instr.fieldAt t v i).run P w = .ok r w) : (execOp ρ o).run P w = .ok (.value r) w := by
  unfold execOp
  simp only [ho, hx, Sem.run_bind, h, Result.andThen_ok]
  rfl
def kind32 : Array Value := #[.int .i64 32, .int .i64 7, .int .i64 18, .int .i64 3, .int .i64 17, .int .i64 19, .int .i64 10, .int .i64 2, .int .i64 13, .int .i64 22, .int .i64 6, .int .i64 11, .int .i64 25]
theorem mid32_get (pre post : Array Value) (l : List UInt32) (i : Nat) (hi : i < l.length) : (pre ++ arr32 l ++ post)[pre.size + i]? = some (W32 (Sha32.at_ l i)) := by
  rw [Array.getElem?_append_left (by rw [Array.size_append, arr32_size]; omega), Array.getElem?_append_right (by omega), Nat.add_sub_cancel_left, arr32_get l i hi]
theorem mid32_set (pre post : Array Value) (l : List UInt32) (i : Nat) (x : UInt32) (hi : i < l.length) : (pre ++ arr32 l ++ post).setIfInBounds (pre.size + i) (W32 x) = pre ++ arr32 (l.set i x) ++ post := by
  rw [Array.setIfInBounds_append_left (by rw [Array.size_append, arr32_size]; omega), Array.setIfInBounds_append_right (by omega), Nat.add_sub_cancel_left, arr32_set]
theorem index_sl32 (g n c i : Nat) (hi : i < n) (w : World) : (Instr.indexAt 87 (.slice (some ⟨g, 0, none⟩) n c) (.int .i64 (i : Int))).run Tryz.prog w = .ok (.pointer (some ⟨g, i, none⟩)) w := by
  have h1 : (i : Int) < (n : Int) := by omega
  have h2 : (0 : Int) ≤ (i : Int) := by omega
  have h3 : ¬ n ≤ i := by omega
  have hs : (Tryz.prog.info? 66).map (·.size) = some 1 := by kernel_rfl
  simp [Instr.indexAt, go_sem, run_underlying Tryz.underlying87, run_sizeOf hs, h1, h2, h3, hi, asIntOf, Addr.add_lit]
theorem run_load_u32 (ad : Addr) (v : Value) (w : World) (h : w.cell? ad = some v) : (loadVar 66 ad).run Tryz.prog w = .ok v w := by
  simp [loadVar, go_sem, h]
theorem run_add32 {P : Program} {o : Oper} {ρ : Operand → Value} {x y : Operand} {t rt : TypeId} (ho : o.op = .binOp .add t x y rt) (a b : UInt32) (hx : ρ x = .int .u32 ((n32 a : Nat) : Int)) (hy : ρ y = .int .u32 ((n32 b : Nat) : Int)) (w : World) :
    (execOp ρ o).run P w = .ok (.value (.int .u32 ((n32 (a + b) : Nat) : Int))) w := by
  unfold execOp
  simp only [ho, hx, hy]
  simp [go_sem]
theorem run_and32 {P : Program} {o : Oper} {ρ : Operand → Value} {x y : Operand} {t rt : TypeId} (ho : o.op = .binOp .and t x y rt) (a b : UInt32) (hx : ρ x = .int .u32 ((n32 a : Nat) : Int)) (hy : ρ y = .int .u32 ((n32 b : Nat) : Int)) (w : World) :
    (execOp ρ o).run P w = .ok (.value (.int .u32 ((n32 (a &&& b) : Nat) : Int))) w := by
  unfold execOp
  simp only [ho, hx, hy]
  simp [go_sem]
theorem run_index_arr32 {w : World} (l : List UInt32) (hl : l.length = 8) (j : Nat) (hj : j < 8) :
    (Instr.index 67 (.agg (arr32 l)) (.int .i64 (j : Int))).run Tryz.prog w = .ok (W32 (Sha32.at_ l j)) w := by
  have hag : (isAgg 66).run Tryz.prog w = .ok false w := by simp [go_sem]
  have hs : (Tryz.prog.info? 66).map (·.size) = some 1 := by kernel_rfl
  have hg := arr32_get l j (by omega)
  have hjn : (j : Int) < 8 := by omega
  simp [Instr.index, asIntOf, run_underlying Tryz.underlying67, run_sizeOf hs, part, hag, hjn, hg]
  omega
theorem enter_mixed32 (args : Array Value) (w : World) : (callFunc 80 args).run Tryz.prog w = .ok (.enter 80 args) w := by kernel_rfl
/-- What stays while a block is taken in: the state, the table, the kind. -/
structure BkE32 (w : World) (Bs g gk z : Nat) (cs : Array Value) (W : World) : Prop where
  st : Blk W g 70 cs
  tb : Blk W gk 89 (arr32 Sha32.K)
  kd : Blk W z 92 kind32
  kept : Kept Bs g w W
  sz : Bs ≤ W.heap.size
section
variable {w : World} {Bs g gk z : Nat} {cs : Array Value} {W w' : World}
theorem BkE32.next (h : BkE32 w Bs g gk z cs W) (hb : Below W.heap.size W w') : BkE32 w Bs g gk z cs w' :=
  ⟨h.st.below hb h.st.lt, h.tb.below hb h.tb.lt, h.kd.below hb h.kd.lt, h.kept.trans (below_kept hb h.sz), Nat.le_trans h.sz hb.size⟩
theorem BkE32.appended {v : Value} {l : List UInt32} (h : BkE32 w Bs g gk z cs W) (ho : OwnW32 W Bs v l) {gv : Nat} (hv : v.ownBlock = some gv) (hg : W.grownBy w' (some gv)) : BkE32 w Bs g gk z cs w' := by
  have hg' : W.grownBy w' v.ownBlock := by rw [hv]; exact hg
  exact ⟨h.st.appendedW32 ho hg' (by decide), h.tb.appendedW32 ho hg' (by decide), h.kd.appendedW32 ho hg' (by decide), h.kept.trans (grown_kept hg (fun k hk => .inl (by injection hk with hk; subst hk; exact (ho.own.lt _ hv).1)) h.sz), Nat.le_trans h.sz hg.size⟩
end
/-- .. and the schedule. -/
structure BkR32 (w : World) (Bs g gk z : Nat) (cs : Array Value) (gv cap : Nat) (l : List UInt32) (W : World) : Prop where
  env : BkE32 w Bs g gk z cs W
  own : OwnW32 W Bs (.slice (some ⟨gv, 0, none⟩) l.length cap) l
section
variable {w : World} {Bs g gk z : Nat} {cs : Array Value} {gv cap : Nat} {l : List UInt32} {W w' : World}
theorem BkR32.next (h : BkR32 w Bs g gk z cs gv cap l W) (hb : Below W.heap.size W w') : BkR32 w Bs g gk z cs gv cap l w' := ⟨h.env.next hb, h.own.later hb⟩
theorem BkR32.call {P : Program} {f : FuncId} {args : Array Value} {v : Value} (h : BkR32 w Bs g gk z cs gv cap l W) (hc : Calls P f args W fun e w' => e = .returned v ∧ Below W.heap.size W w') :
    Calls P f args W fun e w' => e = .returned v ∧ BkR32 w Bs g gk z cs gv cap l w' := hc.mono fun _ _ ⟨he, hb⟩ => ⟨he, h.next hb⟩
end
/-- The schedule's region: before, with the one word laid, with it behind. -/
structure BkV32 (w : World) (Bs g gk z : Nat) (cs : Array Value) (gv cap : Nat) (l : List UInt32) (x : UInt32) (q : Option (Nat ⊕ Value)) (W : World) : Prop where
  env : BkE32 w Bs g gk z cs W
  lt : gv < W.heap.size
  old : ∀ i, i < l.length → W.cell? ⟨gv, i, none⟩ = some (W32 (Sha32.at_ l i))
  own : (q = none ∨ ∃ y, q = some (.inl y)) → OwnW32 W Bs (.slice (some ⟨gv, 0, none⟩) l.length cap) l
  one : ∀ y, q = some (.inl y) → ReadsW32 W W.heap.size (some ⟨y, 0, none⟩) 1 [x]
  done : ∀ u, q = some (.inr u) → OwnW32 W Bs u (l ++ [x])
section
variable {w : World} {Bs g gk z : Nat} {cs : Array Value} {gv cap : Nat} {l : List UInt32} {x : UInt32} {q : Option (Nat ⊕ Value)} {W w' : World}
theorem BkV32.next (h : BkV32 w Bs g gk z cs gv cap l x q W) (hb : Below W.heap.size W w') : BkV32 w Bs g gk z cs gv cap l x q w' :=
  ⟨h.env.next hb, Nat.lt_of_lt_of_le h.lt hb.size, fun i hi => (hb.cell (p := ⟨gv, i, none⟩) h.lt).trans (h.old i hi), fun hq => (h.own hq).later hb, fun y hy => ⟨(h.one y hy).len, ((h.one y hy).is.below hb).more hb.size⟩, fun u hu => (h.done u hu).later hb⟩
theorem BkV32.call {P : Program} {f : FuncId} {args : Array Value} {v : Value} (h : BkV32 w Bs g gk z cs gv cap l x q W) (hc : Calls P f args W fun e w' => e = .returned v ∧ Below W.heap.size W w') :
    Calls P f args W fun e w' => e = .returned v ∧ BkV32 w Bs g gk z cs gv cap l x q w' := hc.mono fun _ _ ⟨he, hb⟩ => ⟨he, h.next hb⟩
end
set_option maxHeartbeats 8000000 in
set_option maxRecDepth 100000 in
theorem sched32_region {Q : Exit → Act → World → Prop} (w : World) (Bs g gk z : Nat) (cs : Array Value) (gv cap : Nat) (l : List UInt32) (W0 : World) : True := by
  trivial
set_option maxHeartbeats 8000000 in
set_option maxRecDepth 100000 in
theorem blocked32_any (g gk : Nat) (pre post : Array Value) (s : List UInt32) (hpre : pre.size = 1) (hs : s.length = 8) (Bs : Nat) (v : Value) (l0 : List UInt32) (w : World) (hst : Blk w g 70 (pre ++ arr32 s ++ post)) (htb : Blk w gk 89 (arr32 Sha32.K)) (hg : g < Bs) (hgk : gk < Bs) (hB : Bs ≤ w.heap.size) (hw : OwnW32 w Bs v l0) (hl : l0.length = 16) :
    Calls Tryz.prog 65 #[.pointer (some ⟨g, 1, none⟩), v, .slice (some ⟨gk, 0, none⟩) 64 64, .agg kind32] w fun e w' => e = .returned (.tuple #[]) ∧ Blk w' g 70 (pre ++ arr32 (Sha32.block s l0) ++ post) ∧ Kept Bs g w w' := by
  have Hl := hd hl
  have Hs := hd hs
  clear hl hs
  obtain ⟨cs, Hcs⟩ : ∃ c, Hd (pre ++ arr32 s ++ post = c) := ⟨_, ⟨rfl⟩⟩
  rw [Hcs.out] at hst
  have hA := (Below.refl w.heap.size w).alloc (Nat.le_refl _) (.cells kind32 92)
  have hE0 : BkE32 w Bs g gk w.heap.size cs (w.alloc (.cells kind32 92)) := ⟨hst.below hA hst.lt, htb.below hA htb.lt, Blk.nu rfl, below_kept hA hB, Nat.le_trans hB hA.size⟩
  have hw1 := hw.alloc (.cells kind32 92)
  go_enter Tryz.func65, Tryz.ntmps65
  go_wp2
  obtain ⟨z, Hz⟩ : ∃ z, Hd (w.heap.size = z) := ⟨_, ⟨rfl⟩⟩
  rw [Hz.out] at hE0 ⊢
  go_loopw [1, 8] (fun v t wr => ∃ (j : Nat), j ≤ 48 ∧ t = .int .i64 ((16 + j : Nat) : Int) ∧ OwnW32 wr Bs v (iter Sha32.more j l0) ∧ BkE32 w Bs g gk z cs wr) (fun _ t _ => 64 - (intOf t).toNat)
  case atStart => exact ⟨0, by omega, rfl, hw1, hE0⟩
  case round =>
    clear hw1 hE0
    obtain ⟨j, hj, rfl, own, hE⟩ := hrel
    obtain ⟨l, Hll⟩ : ∃ l, Hd (iter Sha32.more j l0 = l) := ⟨_, ⟨rfl⟩⟩
    rw [Hll.out] at own
    have hln : l.length = 16 + j := by rw [← Hll.out, Sha32.more_len, Hl.out]
    obtain ⟨gv, cap, e1, hgv1, hgv2, hcap⟩ := own.form (by omega)
    subst e1
    by_cases hlt : j < 48
    · rw [← hln]
      obtain ⟨m2, Hm2⟩ : ∃ m, Hd (l.length - 2 = m) := ⟨_, ⟨rfl⟩⟩
      obtain ⟨m7, Hm7⟩ : ∃ m, Hd (l.length - 7 = m) := ⟨_, ⟨rfl⟩⟩
      obtain ⟨m15, Hm15⟩ : ∃ m, Hd (l.length - 15 = m) := ⟨_, ⟨rfl⟩⟩
      obtain ⟨m16, Hm16⟩ : ∃ m, Hd (l.length - 16 = m) := ⟨_, ⟨rfl⟩⟩
      have b2 := Hm2.out
      have b7 := Hm7.out
      have b15 := Hm15.out
      have b16 := Hm16.out
      obtain ⟨x, Hx⟩ : ∃ x, Hd (Sha32.far (Sha32.at_ l m2) + Sha32.at_ l m7 + Sha32.near (Sha32.at_ l m15) + Sha32.at_ l m16 = x) := ⟨_, ⟨rfl⟩⟩
      have Hnx := hd (show iter Sha32.more (j + 1) l0 = l ++ [x] by rw [iter, Hll.out, Sha32.more, Sha32.next, Hm2.out, Hm7.out, Hm15.out, Hm16.out, Hx.out])
      have tk : (l.length : Int) < 64 := by omega
      go_wp2
      have hS0 : BkV32 w Bs g gk z cs gv cap l x none wr := ⟨hE, hgv2, fun i hi => own.cell i hi, fun _ => own, (fun _ h => by cases h), (fun _ h => by cases h)⟩
      clear own hE
      refine v_start (S := BkV32 w Bs g gk z cs gv cap l x) (fun _ _ => True) none (by kernel_rfl) (hS0.next (Below.refl _ _).drew) ?_
      clear hS0
      refine v_take (fun _ => trivial) (fun _ _ _ _ _ => trivial) 0 (o := _) rfl (by kernel_rfl) (by kernel_rfl) (by kernel_rfl) (.slice (some ⟨gv, 0, none⟩) l.length cap) (fun _ _ _ h => h) (gv_value (wanted_plain rfl) (fun g1 hg W hW => run_move (by rfl) (by simp [Act.eval]) W)) ?_
      simp only [Act.put, List.getElem_toArray, List.getElem_cons_succ, List.getElem_cons_zero, List.setIfInBounds_toArray, List.set_cons_zero, List.set_cons_succ]
      refine v_take (fun _ => trivial) (fun _ _ _ _ _ => trivial) 1 (o := _) rfl (by kernel_rfl) (by kernel_rfl) (by kernel_rfl) (.slice (some ⟨gv, 0, none⟩) l.length cap) (fun _ _ _ h => h) (gv_value (wanted_plain rfl) (fun g1 hg W hW => run_move (by rfl) (by simp [Act.eval]) W)) ?_
      simp only [Act.put, List.getElem_toArray, List.getElem_cons_succ, List.getElem_cons_zero, List.setIfInBounds_toArray, List.set_cons_zero, List.set_cons_succ]
      refine v_take (fun _ => trivial) (fun _ _ _ _ _ => trivial) 2 (o := _) rfl (by kernel_rfl) (by kernel_rfl) (by kernel_rfl) (.int .i64 ((l.length : Nat) : Int)) (fun _ _ _ h => h) (gv_value (wanted_plain rfl) (fun g1 hg W hW => run_move (by rfl) (by simp [Act.eval]) W)) ?_
      simp only [Act.put, List.getElem_toArray, List.getElem_cons_succ, List.getElem_cons_zero, List.setIfInBounds_toArray, List.set_cons_zero, List.set_cons_succ]
      refine v_take (fun _ => trivial) (fun _ _ _ _ _ => trivial) 3 (o := _) rfl (by kernel_rfl) (by kernel_rfl) (by kernel_rfl) (.int .i64 ((m2 : Nat) : Int)) (fun _ _ _ h => h) (gv_value (wanted_plain rfl) (fun g1 hg W hW => run_subI (by rfl) (l.length : Int) 2 (m2 : Int) (by simp [Act.eval]) (by simp [Act.eval]) (sub_nat l.length 2 m2 (by omega) (by omega)))) ?_
      simp only [Act.put, List.getElem_toArray, List.getElem_cons_succ, List.getElem_cons_zero, List.setIfInBounds_toArray, List.set_cons_zero, List.set_cons_succ]
      refine v_take (fun _ => trivial) (fun _ _ _ _ _ => trivial) 4 (o := _) rfl (by kernel_rfl) (by kernel_rfl) (by kernel_rfl) (.pointer (some ⟨gv, m2, none⟩)) (fun _ _ _ h => h) (gv_value (wanted_plain rfl) (fun g1 hg W hW => run_indexAddr (by rfl) (by simp [Act.eval]) (by simp [Act.eval]) (index_sl32 gv l.length cap m2 (by omega)))) ?_
      simp only [Act.put, List.getElem_toArray, List.getElem_cons_succ, List.getElem_cons_zero, List.setIfInBounds_toArray, List.set_cons_zero, List.set_cons_succ]
      refine v_take (fun _ => trivial) (fun _ _ _ _ _ => trivial) 5 (o := _) rfl (by kernel_rfl) (by kernel_rfl) (by kernel_rfl) (.int .u32 ((n32 (Sha32.at_ l m2) : Nat) : Int)) (fun _ _ _ h => h) (gv_value (wanted_plain rfl) (fun g1 hg W hW => run_execOp_load (by rfl) (by simp [Act.eval]) (run_load_u32 _ _ W (BkV32.old hW m2 (by omega))))) ?_
      simp only [Act.put, List.getElem_toArray, List.getElem_cons_succ, List.getElem_cons_zero, List.setIfInBounds_toArray, List.set_cons_zero, List.set_cons_succ]
      refine v_take (fun _ => trivial) (fun _ _ _ _ _ => trivial) 6 (o := _) rfl (by kernel_rfl) (by kernel_rfl) (by kernel_rfl) (.pointer (some ⟨z, 0, none⟩)) (fun _ _ _ h => h) (gv_value (wanted_plain rfl) (fun g1 hg W hW => run_fieldAddr (by rfl) (by simp [Act.eval]) (field_kind z 0 0 (by simp)))) ?_
      simp only [Act.put, List.getElem_toArray, List.getElem_cons_succ, List.getElem_cons_zero, List.setIfInBounds_toArray, List.set_cons_zero, List.set_cons_succ]
      refine v_take (fun _ => trivial) (fun _ _ _ _ _ => trivial) 7 (o := _) rfl (by kernel_rfl) (by kernel_rfl) (by kernel_rfl) (.int .i64 32) (fun _ _ _ h => h) (gv_value (wanted_plain rfl) (fun g1 hg W hW => run_execOp_load (by rfl) (by simp [Act.eval]) (run_load_i64 _ _ W ((BkV32.env hW).kd.cell 0)))) ?_
      simp only [Act.put, List.getElem_toArray, List.getElem_cons_succ, List.getElem_cons_zero, List.setIfInBounds_toArray, List.set_cons_zero, List.set_cons_succ]
      refine v_take (fun _ => trivial) (fun _ _ _ _ _ => trivial) 8 (o := _) rfl (by kernel_rfl) (by kernel_rfl) (by kernel_rfl) (.pointer (some ⟨z, 4, none⟩)) (fun _ _ _ h => h) (gv_value (wanted_plain rfl) (fun g1 hg W hW => run_fieldAddr (by rfl) (by simp [Act.eval]) (field_kind z 2 4 (by simp)))) ?_
      simp only [Act.put, List.getElem_toArray, List.getElem_cons_succ, List.getElem_cons_zero, List.setIfInBounds_toArray, List.set_cons_zero, List.set_cons_succ]
      refine v_take (fun _ => trivial) (fun _ _ _ _ _ => trivial) 9 (o := _) rfl (by kernel_rfl) (by kernel_rfl) (by kernel_rfl) (.agg (three 17 19 10)) (fun _ _ _ h => h) (gv_value (wanted_plain rfl) (fun g1 hg W hW => run_execOp_load (by rfl) (by simp [Act.eval]) (run_loadVar_cells agg3 ⟨z, 4, none⟩ [.int .i64 17, .int .i64 19, .int .i64 10] rfl ((BkV32.env hW).kd.cells_at 4 _ (fun j v hv => by match j, hv with | 0, hv => exact hv | 1, hv => exact hv | 2, hv => exact hv | j + 3, hv => simp at hv)).is))) ?_
      simp only [Act.put, List.getElem_toArray, List.getElem_cons_succ, List.getElem_cons_zero, List.setIfInBounds_toArray, List.set_cons_zero, List.set_cons_succ]
      refine v_take (fun _ => trivial) (fun _ _ _ _ _ => trivial) 11 (o := _) rfl (by kernel_rfl) (by kernel_rfl) (by kernel_rfl) (.slice (some ⟨gv, 0, none⟩) l.length cap) (fun _ _ _ h => h) (gv_value (wanted_plain rfl) (fun g1 hg W hW => run_move (by rfl) (by simp [Act.eval]) W)) ?_
      simp only [Act.put, List.getElem_toArray, List.getElem_cons_succ, List.getElem_cons_zero, List.setIfInBounds_toArray, List.set_cons_zero, List.set_cons_succ]
      refine v_take (fun _ => trivial) (fun _ _ _ _ _ => trivial) 12 (o := _) rfl (by kernel_rfl) (by kernel_rfl) (by kernel_rfl) (.int .i64 ((l.length : Nat) : Int)) (fun _ _ _ h => h) (gv_value (wanted_plain rfl) (fun g1 hg W hW => run_move (by rfl) (by simp [Act.eval]) W)) ?_
      simp only [Act.put, List.getElem_toArray, List.getElem_cons_succ, List.getElem_cons_zero, List.setIfInBounds_toArray, List.set_cons_zero, List.set_cons_succ]
      refine v_take (fun _ => trivial) (fun _ _ _ _ _ => trivial) 13 (o := _) rfl (by kernel_rfl) (by kernel_rfl) (by kernel_rfl) (.int .i64 ((m7 : Nat) : Int)) (fun _ _ _ h => h) (gv_value (wanted_plain rfl) (fun g1 hg W hW => run_subI (by rfl) (l.length : Int) 7 (m7 : Int) (by simp [Act.eval]) (by simp [Act.eval]) (sub_nat l.length 7 m7 (by omega) (by omega)))) ?_
      simp only [Act.put, List.getElem_toArray, List.getElem_cons_succ, List.getElem_cons_zero, List.setIfInBounds_toArray, List.set_cons_zero, List.set_cons_succ]
      refine v_take (fun _ => trivial) (fun _ _ _ _ _ => trivial) 14 (o := _) rfl (by kernel_rfl) (by kernel_rfl) (by kernel_rfl) (.pointer (some ⟨gv, m7, none⟩)) (fun _ _ _ h => h) (gv_value (wanted_plain rfl) (fun g1 hg W hW => run_indexAddr (by rfl) (by simp [Act.eval]) (by simp [Act.eval]) (index_sl32 gv l.length cap m7 (by omega)))) ?_
      simp only [Act.put, List.getElem_toArray, List.getElem_cons_succ, List.getElem_cons_zero, List.setIfInBounds_toArray, List.set_cons_zero, List.set_cons_succ]
      refine v_take (fun _ => trivial) (fun _ _ _ _ _ => trivial) 15 (o := _) rfl (by kernel_rfl) (by kernel_rfl) (by kernel_rfl) (.int .u32 ((n32 (Sha32.at_ l m7) : Nat) : Int)) (fun _ _ _ h => h) (gv_value (wanted_plain rfl) (fun g1 hg W hW => run_execOp_load (by rfl) (by simp [Act.eval]) (run_load_u32 _ _ W (BkV32.old hW m7 (by omega))))) ?_
      simp only [Act.put, List.getElem_toArray, List.getElem_cons_succ, List.getElem_cons_zero, List.setIfInBounds_toArray, List.set_cons_zero, List.set_cons_succ]
      refine v_take (fun _ => trivial) (fun _ _ _ _ _ => trivial) 17 (o := _) rfl (by kernel_rfl) (by kernel_rfl) (by kernel_rfl) (.slice (some ⟨gv, 0, none⟩) l.length cap) (fun _ _ _ h => h) (gv_value (wanted_plain rfl) (fun g1 hg W hW => run_move (by rfl) (by simp [Act.eval]) W)) ?_
      simp only [Act.put, List.getElem_toArray, List.getElem_cons_succ, List.getElem_cons_zero, List.setIfInBounds_toArray, List.set_cons_zero, List.set_cons_succ]
      refine v_take (fun _ => trivial) (fun _ _ _ _ _ => trivial) 18 (o := _) rfl (by kernel_rfl) (by kernel_rfl) (by kernel_rfl) (.int .i64 ((l.length : Nat) : Int)) (fun _ _ _ h => h) (gv_value (wanted_plain rfl) (fun g1 hg W hW => run_move (by rfl) (by simp [Act.eval]) W)) ?_
      simp only [Act.put, List.getElem_toArray, List.getElem_cons_succ, List.getElem_cons_zero, List.setIfInBounds_toArray, List.set_cons_zero, List.set_cons_succ]
      refine v_take (fun _ => trivial) (fun _ _ _ _ _ => trivial) 19 (o := _) rfl (by kernel_rfl) (by kernel_rfl) (by kernel_rfl) (.int .i64 ((m15 : Nat) : Int)) (fun _ _ _ h => h) (gv_value (wanted_plain rfl) (fun g1 hg W hW => run_subI (by rfl) (l.length : Int) 15 (m15 : Int) (by simp [Act.eval]) (by simp [Act.eval]) (sub_nat l.length 15 m15 (by omega) (by omega)))) ?_
      simp only [Act.put, List.getElem_toArray, List.getElem_cons_succ, List.getElem_cons_zero, List.setIfInBounds_toArray, List.set_cons_zero, List.set_cons_succ]
      refine v_take (fun _ => trivial) (fun _ _ _ _ _ => trivial) 20 (o := _) rfl (by kernel_rfl) (by kernel_rfl) (by kernel_rfl) (.pointer (some ⟨gv, m15, none⟩)) (fun _ _ _ h => h) (gv_value (wanted_plain rfl) (fun g1 hg W hW => run_indexAddr (by rfl) (by simp [Act.eval]) (by simp [Act.eval]) (index_sl32 gv l.length cap m15 (by omega)))) ?_
      simp only [Act.put, List.getElem_toArray, List.getElem_cons_succ, List.getElem_cons_zero, List.setIfInBounds_toArray, List.set_cons_zero, List.set_cons_succ]
      refine v_take (fun _ => trivial) (fun _ _ _ _ _ => trivial) 21 (o := _) rfl (by kernel_rfl) (by kernel_rfl) (by kernel_rfl) (.int .u32 ((n32 (Sha32.at_ l m15) : Nat) : Int)) (fun _ _ _ h => h) (gv_value (wanted_plain rfl) (fun g1 hg W hW => run_execOp_load (by rfl) (by simp [Act.eval]) (run_load_u32 _ _ W (BkV32.old hW m15 (by omega))))) ?_
      simp only [Act.put, List.getElem_toArray, List.getElem_cons_succ, List.getElem_cons_zero, List.setIfInBounds_toArray, List.set_cons_zero, List.set_cons_succ]
      refine v_take (fun _ => trivial) (fun _ _ _ _ _ => trivial) 22 (o := _) rfl (by kernel_rfl) (by kernel_rfl) (by kernel_rfl) (.pointer (some ⟨z, 0, none⟩)) (fun _ _ _ h => h) (gv_value (wanted_plain rfl) (fun g1 hg W hW => run_fieldAddr (by rfl) (by simp [Act.eval]) (field_kind z 0 0 (by simp)))) ?_
      simp only [Act.put, List.getElem_toArray, List.getElem_cons_succ, List.getElem_cons_zero, List.setIfInBounds_toArray, List.set_cons_zero, List.set_cons_succ]
      refine v_take (fun _ => trivial) (fun _ _ _ _ _ => trivial) 23 (o := _) rfl (by kernel_rfl) (by kernel_rfl) (by kernel_rfl) (.int .i64 32) (fun _ _ _ h => h) (gv_value (wanted_plain rfl) (fun g1 hg W hW => run_execOp_load (by rfl) (by simp [Act.eval]) (run_load_i64 _ _ W ((BkV32.env hW).kd.cell 0)))) ?_
      simp only [Act.put, List.getElem_toArray, List.getElem_cons_succ, List.getElem_cons_zero, List.setIfInBounds_toArray, List.set_cons_zero, List.set_cons_succ]
      refine v_take (fun _ => trivial) (fun _ _ _ _ _ => trivial) 24 (o := _) rfl (by kernel_rfl) (by kernel_rfl) (by kernel_rfl) (.pointer (some ⟨z, 1, none⟩)) (fun _ _ _ h => h) (gv_value (wanted_plain rfl) (fun g1 hg W hW => run_fieldAddr (by rfl) (by simp [Act.eval]) (field_kind z 1 1 (by simp)))) ?_
      simp only [Act.put, List.getElem_toArray, List.getElem_cons_succ, List.getElem_cons_zero, List.setIfInBounds_toArray, List.set_cons_zero, List.set_cons_succ]
      refine v_take (fun _ => trivial) (fun _ _ _ _ _ => trivial) 25 (o := _) rfl (by kernel_rfl) (by kernel_rfl) (by kernel_rfl) (.agg (three 7 18 3)) (fun _ _ _ h => h) (gv_value (wanted_plain rfl) (fun g1 hg W hW => run_execOp_load (by rfl) (by simp [Act.eval]) (run_loadVar_cells agg3 ⟨z, 1, none⟩ [.int .i64 7, .int .i64 18, .int .i64 3] rfl ((BkV32.env hW).kd.cells_at 1 _ (fun j v hv => by match j, hv with | 0, hv => exact hv | 1, hv => exact hv | 2, hv => exact hv | j + 3, hv => simp at hv)).is))) ?_
      simp only [Act.put, List.getElem_toArray, List.getElem_cons_succ, List.getElem_cons_zero, List.setIfInBounds_toArray, List.set_cons_zero, List.set_cons_succ]
      refine v_take (fun _ => trivial) (fun _ _ _ _ _ => trivial) 28 (o := _) rfl (by kernel_rfl) (by kernel_rfl) (by kernel_rfl) (.slice (some ⟨gv, 0, none⟩) l.length cap) (fun _ _ _ h => h) (gv_value (wanted_plain rfl) (fun g1 hg W hW => run_move (by rfl) (by simp [Act.eval]) W)) ?_
      simp only [Act.put, List.getElem_toArray, List.getElem_cons_succ, List.getElem_cons_zero, List.setIfInBounds_toArray, List.set_cons_zero, List.set_cons_succ]
      refine v_take (fun _ => trivial) (fun _ _ _ _ _ => trivial) 29 (o := _) rfl (by kernel_rfl) (by kernel_rfl) (by kernel_rfl) (.int .i64 ((l.length : Nat) : Int)) (fun _ _ _ h => h) (gv_value (wanted_plain rfl) (fun g1 hg W hW => run_move (by rfl) (by simp [Act.eval]) W)) ?_
      simp only [Act.put, List.getElem_toArray, List.getElem_cons_succ, List.getElem_cons_zero, List.setIfInBounds_toArray, List.set_cons_zero, List.set_cons_succ]
      refine v_take (fun _ => trivial) (fun _ _ _ _ _ => trivial) 30 (o := _) rfl (by kernel_rfl) (by kernel_rfl) (by kernel_rfl) (.int .i64 ((m16 : Nat) : Int)) (fun _ _ _ h => h) (gv_value (wanted_plain rfl) (fun g1 hg W hW => run_subI (by rfl) (l.length : Int) 16 (m16 : Int) (by simp [Act.eval]) (by simp [Act.eval]) (sub_nat l.length 16 m16 (by omega) (by omega)))) ?_
      simp only [Act.put, List.getElem_toArray, List.getElem_cons_succ, List.getElem_cons_zero, List.setIfInBounds_toArray, List.set_cons_zero, List.set_cons_succ]
      refine v_take (fun _ => trivial) (fun _ _ _ _ _ => trivial) 31 (o := _) rfl (by kernel_rfl) (by kernel_rfl) (by kernel_rfl) (.pointer (some ⟨gv, m16, none⟩)) (fun _ _ _ h => h) (gv_value (wanted_plain rfl) (fun g1 hg W hW => run_indexAddr (by rfl) (by simp [Act.eval]) (by simp [Act.eval]) (index_sl32 gv l.length cap m16 (by omega)))) ?_
      simp only [Act.put, List.getElem_toArray, List.getElem_cons_succ, List.getElem_cons_zero, List.setIfInBounds_toArray, List.set_cons_zero, List.set_cons_succ]
      refine v_take (fun _ => trivial) (fun _ _ _ _ _ => trivial) 32 (o := _) rfl (by kernel_rfl) (by kernel_rfl) (by kernel_rfl) (.int .u32 ((n32 (Sha32.at_ l m16) : Nat) : Int)) (fun _ _ _ h => h) (gv_value (wanted_plain rfl) (fun g1 hg W hW => run_execOp_load (by rfl) (by simp [Act.eval]) (run_load_u32 _ _ W (BkV32.old hW m16 (by omega))))) ?_
      simp only [Act.put, List.getElem_toArray, List.getElem_cons_succ, List.getElem_cons_zero, List.setIfInBounds_toArray, List.set_cons_zero, List.set_cons_succ]
      refine v_take (fun _ => trivial) (fun _ _ _ _ _ => trivial) 10 (o := _) rfl (by kernel_rfl) (by kernel_rfl) (by kernel_rfl) (.int .u32 ((n32 (Sha32.far (Sha32.at_ l m2)) : Nat) : Int)) (fun _ _ _ h => h) (gv_call (wanted_plain rfl) 80 _ _ rfl #[.int .u32 ((n32 (Sha32.at_ l m2) : Nat) : Int), .int .i64 32, .agg (three 17 19 10), .bool true] (by simp [Act.eval]) (enter_mixed32 _) (fun g1 hg W hW => BkV32.call hW (mixed32_any (Sha32.at_ l m2) 17 19 10 (by omega) (by omega) (by omega) true W))) ?_
      simp only [Act.put, List.getElem_toArray, List.getElem_cons_succ, List.getElem_cons_zero, List.setIfInBounds_toArray, List.set_cons_zero, List.set_cons_succ]
      refine v_take (fun _ => trivial) (fun _ _ _ _ _ => trivial) 16 (o := _) rfl (by kernel_rfl) (by kernel_rfl) (by kernel_rfl) (.int .u32 ((n32 (Sha32.far (Sha32.at_ l m2) + Sha32.at_ l m7) : Nat) : Int)) (fun _ _ _ h => h) (gv_value (wanted_plain rfl) (fun g1 hg W hW => run_add32 (by rfl) (Sha32.far (Sha32.at_ l m2)) (Sha32.at_ l m7) (by simp [Act.eval]) (by simp [Act.eval]) W)) ?_
      simp only [Act.put, List.getElem_toArray, List.getElem_cons_succ, List.getElem_cons_zero, List.setIfInBounds_toArray, List.set_cons_zero, List.set_cons_succ]
      refine v_take (fun _ => trivial) (fun _ _ _ _ _ => trivial) 26 (o := _) rfl (by kernel_rfl) (by kernel_rfl) (by kernel_rfl) (.int .u32 ((n32 (Sha32.near (Sha32.at_ l m15)) : Nat) : Int)) (fun _ _ _ h => h) (gv_call (wanted_plain rfl) 80 _ _ rfl #[.int .u32 ((n32 (Sha32.at_ l m15) : Nat) : Int), .int .i64 32, .agg (three 7 18 3), .bool true] (by simp [Act.eval]) (enter_mixed32 _) (fun g1 hg W hW => BkV32.call hW (mixed32_any (Sha32.at_ l m15) 7 18 3 (by omega) (by omega) (by omega) true W))) ?_
      simp only [Act.put, List.getElem_toArray, List.getElem_cons_succ, List.getElem_cons_zero, List.setIfInBounds_toArray, List.set_cons_zero, List.set_cons_succ]
      refine v_take (fun _ => trivial) (fun _ _ _ _ _ => trivial) 27 (o := _) rfl (by kernel_rfl) (by kernel_rfl) (by kernel_rfl) (.int .u32 ((n32 (Sha32.far (Sha32.at_ l m2) + Sha32.at_ l m7 + Sha32.near (Sha32.at_ l m15)) : Nat) : Int)) (fun _ _ _ h => h) (gv_value (wanted_plain rfl) (fun g1 hg W hW => run_add32 (by rfl) (Sha32.far (Sha32.at_ l m2) + Sha32.at_ l m7) (Sha32.near (Sha32.at_ l m15)) (by simp [Act.eval]) (by simp [Act.eval]) W)) ?_
      simp only [Act.put, List.getElem_toArray, List.getElem_cons_succ, List.getElem_cons_zero, List.setIfInBounds_toArray, List.set_cons_zero, List.set_cons_succ]
      refine v_take (fun _ => trivial) (fun _ _ _ _ _ => trivial) 33 (o := _) rfl (by kernel_rfl) (by kernel_rfl) (by kernel_rfl) (.int .u32 ((n32 (Sha32.far (Sha32.at_ l m2) + Sha32.at_ l m7 + Sha32.near (Sha32.at_ l m15) + Sha32.at_ l m16) : Nat) : Int)) (fun _ _ _ h => h) (gv_value (wanted_plain rfl) (fun g1 hg W hW => run_add32 (by rfl) (Sha32.far (Sha32.at_ l m2) + Sha32.at_ l m7 + Sha32.near (Sha32.at_ l m15)) (Sha32.at_ l m16) (by simp [Act.eval]) (by simp [Act.eval]) W)) ?_
      simp only [Act.put, List.getElem_toArray, List.getElem_cons_succ, List.getElem_cons_zero, List.setIfInBounds_toArray, List.set_cons_zero, List.set_cons_succ]
      refine v_each (rs := [34]) (by kernel_rfl) (by simp) (fun i hi W hW => ?_)
      obtain rfl : i = 34 := by simpa using hi
      clear hi
      refine ⟨_, rfl, wanted_plain rfl, .inl ⟨_, _, some (.inl W.heap.size), run_buildW32 (by rfl) x (by simp [Act.eval, Hx.out]), trivial, ?_, ?_⟩⟩
      · have h1 := hW.next ((Below.refl W.heap.size W).alloc (Nat.le_refl _) (.cells #[W32 x] 66))
        exact ⟨h1.env, h1.lt, h1.old, fun _ => h1.own (.inl rfl), fun y hy => by
          injection hy with hy; injection hy with hy; subst hy
          have h2 := ReadsW32.one W x
          exact ⟨h2.len, h2.is.more (by simp)⟩, fun u hu => by cases hu⟩
      obtain ⟨y, Hy⟩ : ∃ y, Hd (W.heap.size = y) := ⟨_, ⟨rfl⟩⟩
      rw [Hy.out]
      clear hW
      simp only [Act.put, List.getElem_toArray, List.getElem_cons_succ, List.getElem_cons_zero, List.setIfInBounds_toArray, List.set_cons_zero, List.set_cons_succ]
      refine v_each (rs := [35]) (by kernel_rfl) (by simp) (fun i hi W2 hW2 => ?_)
      obtain rfl : i = 35 := by simpa using hi
      clear hi
      refine ⟨_, rfl, wanted_plain rfl, .inl (run_appendKeepV32 (w := W2) (B := Bs) (l := l) (by rfl) gv cap (by simp [Act.eval]) (hW2.own (.inr ⟨y, rfl⟩)) (by omega) W2.heap.size ⟨y, 0, none⟩ 1 x (by simp [Act.eval]) (hW2.one y rfl) (by omega) hW2.env.sz ?_)⟩
      intro v' w' h1 h2 h3
      refine ⟨some (.inr v'), trivial, ⟨hW2.env.appended (hW2.own (.inr ⟨y, rfl⟩)) rfl h2, Nat.lt_of_lt_of_le hW2.lt h2.size, h3, (fun hq => by rcases hq with hq | ⟨_, hq⟩ <;> cases hq), (fun _ hq => by cases hq), (fun u hu => by injection hu with hu; injection hu with hu; subst hu; exact h1)⟩, ?_⟩
      clear hW2 h1 h2 h3
      simp only [Act.put, List.getElem_toArray, List.getElem_cons_succ, List.getElem_cons_zero, List.setIfInBounds_toArray, List.set_cons_zero, List.set_cons_succ]
      refine v_take (fun _ => trivial) (fun _ _ _ _ _ => trivial) 36 (o := _) rfl (by kernel_rfl) (by kernel_rfl) (by kernel_rfl) (v') (fun _ _ _ h => h) (gv_value (wanted_plain rfl) (fun g1 hg W hW => run_assign (by rfl) (by simp [Act.eval]) W)) ?_
      simp only [Act.put, List.getElem_toArray, List.getElem_cons_succ, List.getElem_cons_zero, List.setIfInBounds_toArray, List.set_cons_zero, List.set_cons_succ]
      refine v_done (by kernel_rfl) (fun W3 hW3 => ?_) _
      have own3 := hW3.done _ rfl
      have hE3 := hW3.env
      rw [← Hnx.out] at own3
      clear hW3
      go_wp2
      go_roundw
      case rel => exact ⟨j + 1, by omega, by congr 1 <;> omega, own3, hE3⟩
      case measure => simp [intOf]; omega
    · have ej : j = 48 := by omega
      subst ej
      have tk : ¬ (((16 + 48 : Nat) : Int)) < 64 := by omega
      have Hln := hd hln
      have Hgv := hd (And.intro hgv1 hgv2)
      clear hgv1 hgv2 hcap hj hlt hln
      have c0 : wr.cell? ⟨g, 1, none⟩ = some (.int .u32 ((n32 (Sha32.at_ s 0) : Nat) : Int)) := by
        have h := hE.st.cell (pre.size + 0)
        rw [← Hcs.out, mid32_get pre post s 0 (by rw [Hs.out]; omega), hpre] at h
        exact h
      have c1 : wr.cell? ⟨g, 2, none⟩ = some (.int .u32 ((n32 (Sha32.at_ s 1) : Nat) : Int)) := by
        have h := hE.st.cell (pre.size + 1)
        rw [← Hcs.out, mid32_get pre post s 1 (by rw [Hs.out]; omega), hpre] at h
        exact h
      have c2 : wr.cell? ⟨g, 3, none⟩ = some (.int .u32 ((n32 (Sha32.at_ s 2) : Nat) : Int)) := by
        have h := hE.st.cell (pre.size + 2)
        rw [← Hcs.out, mid32_get pre post s 2 (by rw [Hs.out]; omega), hpre] at h
        exact h
      have c3 : wr.cell? ⟨g, 4, none⟩ = some (.int .u32 ((n32 (Sha32.at_ s 3) : Nat) : Int)) := by
        have h := hE.st.cell (pre.size + 3)
        rw [← Hcs.out, mid32_get pre post s 3 (by rw [Hs.out]; omega), hpre] at h
        exact h
      have c4 : wr.cell? ⟨g, 5, none⟩ = some (.int .u32 ((n32 (Sha32.at_ s 4) : Nat) : Int)) := by
        have h := hE.st.cell (pre.size + 4)
        rw [← Hcs.out, mid32_get pre post s 4 (by rw [Hs.out]; omega), hpre] at h
        exact h
      have c5 : wr.cell? ⟨g, 6, none⟩ = some (.int .u32 ((n32 (Sha32.at_ s 5) : Nat) : Int)) := by
        have h := hE.st.cell (pre.size + 5)
        rw [← Hcs.out, mid32_get pre post s 5 (by rw [Hs.out]; omega), hpre] at h
        exact h
      have c6 : wr.cell? ⟨g, 7, none⟩ = some (.int .u32 ((n32 (Sha32.at_ s 6) : Nat) : Int)) := by
        have h := hE.st.cell (pre.size + 6)
        rw [← Hcs.out, mid32_get pre post s 6 (by rw [Hs.out]; omega), hpre] at h
        exact h
      have c7 : wr.cell? ⟨g, 8, none⟩ = some (.int .u32 ((n32 (Sha32.at_ s 7) : Nat) : Int)) := by
        have h := hE.st.cell (pre.size + 7)
        rw [← Hcs.out, mid32_get pre post s 7 (by rw [Hs.out]; omega), hpre] at h
        exact h
      go_wp2
      go_quiet (fail)
      go_wp2
      replace hE := hE.next (below_drewN (Below.refl _ _) nq)
      replace own := own.later (below_drewN (Below.refl wr.heap.size wr) nq)
      clear c0 c1 c2 c3 c4 c5 c6 c7
      obtain ⟨F, HF⟩ : ∃ F, Hd (iter (Sha32.round l) 64 (Sha32.toV s) = F) := ⟨_, ⟨rfl⟩⟩
      obtain ⟨V0, HV0⟩ : ∃ V, Hd (Sha32.toV s = V) := ⟨_, ⟨rfl⟩⟩
      have own' : OwnW32 (wr.drewN nq) Bs (.slice (some ⟨gv, 0, none⟩) l.length cap) l := own
      go_loopw [9, 10, 11, 12, 13, 14, 15, 16, 98] (fun a b c d e f g' h i wr => ∃ (k : Nat) (V : Sha32.V), k ≤ 64 ∧ i = .int .i64 (k : Int) ∧ iter (Sha32.round l) k (Sha32.toV s) = V ∧ a = W32 V.a ∧ b = W32 V.b ∧ c = W32 V.c ∧ d = W32 V.d ∧ e = W32 V.e ∧ f = W32 V.f ∧ g' = W32 V.g ∧ h = W32 V.h ∧ OwnW32 wr Bs (.slice (some ⟨gv, 0, none⟩) l.length cap) l ∧ BkE32 w Bs g gk z cs wr) (fun _ _ _ _ _ _ _ _ i _ => 64 - (intOf i).toNat)
      case atStart => exact ⟨0, _, by omega, rfl, rfl, rfl, rfl, rfl, rfl, rfl, rfl, rfl, rfl, own', hE⟩
      case round =>
        clear own own' hE
        obtain ⟨k, V, hk, rfl, hV, rfl, rfl, rfl, rfl, rfl, rfl, rfl, rfl, own, hE⟩ := hrel
        have HV := hd hV
        clear hV
        obtain ⟨a, b, c, d, ee, ff, q, h⟩ := V
        simp only [W32]
        by_cases hlt : k < 64
        · have tk : (k : Int) < 64 := by omega
          go_wp2
          refine u_start (S := fun _ => BkR32 w Bs g gk z cs gv cap l) 99 (by kernel_rfl) (BkR32.next ⟨hE, own⟩ (Below.refl _ _).drew) ?_
          clear own hE
          refine u_take 0 rfl (o := _) rfl (by kernel_rfl) (by kernel_rfl) (by kernel_rfl) (.int .u32 ((n32 h : Nat) : Int)) (fun _ _ _ h => h) (g_value rfl (wanted_plain rfl) (fun f W hW => run_move (by rfl) (by simp [Act.eval]) W)) ?_
          simp only [Act.put, List.getElem_toArray, List.getElem_cons_succ, List.getElem_cons_zero, List.setIfInBounds_toArray, List.set_cons_zero, List.set_cons_succ]
          refine u_take 1 rfl (o := _) rfl (by kernel_rfl) (by kernel_rfl) (by kernel_rfl) (.int .u32 ((n32 ee : Nat) : Int)) (fun _ _ _ h => h) (g_value rfl (wanted_plain rfl) (fun f W hW => run_move (by rfl) (by simp [Act.eval]) W)) ?_
          simp only [Act.put, List.getElem_toArray, List.getElem_cons_succ, List.getElem_cons_zero, List.setIfInBounds_toArray, List.set_cons_zero, List.set_cons_succ]
          refine u_take 2 rfl (o := _) rfl (by kernel_rfl) (by kernel_rfl) (by kernel_rfl) (.pointer (some ⟨z, 0, none⟩)) (fun _ _ _ h => h) (g_value rfl (wanted_plain rfl) (fun f W hW => run_fieldAddr (by rfl) (by simp [Act.eval]) (field_kind z 0 0 (by simp)))) ?_
          simp only [Act.put, List.getElem_toArray, List.getElem_cons_succ, List.getElem_cons_zero, List.setIfInBounds_toArray, List.set_cons_zero, List.set_cons_succ]
          refine u_take 3 rfl (o := _) rfl (by kernel_rfl) (by kernel_rfl) (by kernel_rfl) (.int .i64 32) (fun _ _ _ h => h) (g_value rfl (wanted_plain rfl) (fun f W hW => run_execOp_load (by rfl) (by simp [Act.eval]) (run_load_i64 _ _ W ((BkR32.env hW).kd.cell 0)))) ?_
          simp only [Act.put, List.getElem_toArray, List.getElem_cons_succ, List.getElem_cons_zero, List.setIfInBounds_toArray, List.set_cons_zero, List.set_cons_succ]
          refine u_take 4 rfl (o := _) rfl (by kernel_rfl) (by kernel_rfl) (by kernel_rfl) (.pointer (some ⟨z, 10, none⟩)) (fun _ _ _ h => h) (g_value rfl (wanted_plain rfl) (fun f W hW => run_fieldAddr (by rfl) (by simp [Act.eval]) (field_kind z 4 10 (by simp)))) ?_
          simp only [Act.put, List.getElem_toArray, List.getElem_cons_succ, List.getElem_cons_zero, List.setIfInBounds_toArray, List.set_cons_zero, List.set_cons_succ]
          refine u_take 5 rfl (o := _) rfl (by kernel_rfl) (by kernel_rfl) (by kernel_rfl) (.agg (three 6 11 25)) (fun _ _ _ h => h) (g_value rfl (wanted_plain rfl) (fun f W hW => run_execOp_load (by rfl) (by simp [Act.eval]) (run_loadVar_cells agg3 ⟨z, 10, none⟩ [.int .i64 6, .int .i64 11, .int .i64 25] rfl ((BkR32.env hW).kd.cells_at 10 _ (fun j v hv => by match j, hv with | 0, hv => exact hv | 1, hv => exact hv | 2, hv => exact hv | j + 3, hv => simp at hv)).is))) ?_
          simp only [Act.put, List.getElem_toArray, List.getElem_cons_succ, List.getElem_cons_zero, List.setIfInBounds_toArray, List.set_cons_zero, List.set_cons_succ]
          refine u_take 6 rfl (o := _) rfl (by kernel_rfl) (by kernel_rfl) (by kernel_rfl) (.int .u32 ((n32 (Sha32.fifth ee) : Nat) : Int)) (fun _ _ _ h => h) (g_call rfl (wanted_plain rfl) 80 _ _ rfl #[.int .u32 ((n32 ee : Nat) : Int), .int .i64 32, .agg (three 6 11 25), .bool false] (by simp [Act.eval]) (enter_mixed32 _) (fun f W hW => BkR32.call hW (mixed32_any ee 6 11 25 (by omega) (by omega) (by omega) false W))) ?_
          simp only [Act.put, List.getElem_toArray, List.getElem_cons_succ, List.getElem_cons_zero, List.setIfInBounds_toArray, List.set_cons_zero, List.set_cons_succ]
          refine u_take 7 rfl (o := _) rfl (by kernel_rfl) (by kernel_rfl) (by kernel_rfl) (.int .u32 ((n32 (h + Sha32.fifth ee) : Nat) : Int)) (fun _ _ _ h => h) (g_value rfl (wanted_plain rfl) (fun f W hW => run_add32 (by rfl) (h) (Sha32.fifth ee) (by simp [Act.eval]) (by simp [Act.eval]) W)) ?_
          simp only [Act.put, List.getElem_toArray, List.getElem_cons_succ, List.getElem_cons_zero, List.setIfInBounds_toArray, List.set_cons_zero, List.set_cons_succ]
          refine u_take 8 rfl (o := _) rfl (by kernel_rfl) (by kernel_rfl) (by kernel_rfl) (.int .u32 ((n32 q : Nat) : Int)) (fun _ _ _ h => h) (g_value rfl (wanted_plain rfl) (fun f W hW => run_move (by rfl) (by simp [Act.eval]) W)) ?_
          simp only [Act.put, List.getElem_toArray, List.getElem_cons_succ, List.getElem_cons_zero, List.setIfInBounds_toArray, List.set_cons_zero, List.set_cons_succ]
          refine u_take 9 rfl (o := _) rfl (by kernel_rfl) (by kernel_rfl) (by kernel_rfl) (.int .u32 ((n32 ee : Nat) : Int)) (fun _ _ _ h => h) (g_value rfl (wanted_plain rfl) (fun f W hW => run_move (by rfl) (by simp [Act.eval]) W)) ?_
          simp only [Act.put, List.getElem_toArray, List.getElem_cons_succ, List.getElem_cons_zero, List.setIfInBounds_toArray, List.set_cons_zero, List.set_cons_succ]
          refine u_take 10 rfl (o := _) rfl (by kernel_rfl) (by kernel_rfl) (by kernel_rfl) (.int .u32 ((n32 ff : Nat) : Int)) (fun _ _ _ h => h) (g_value rfl (wanted_plain rfl) (fun f W hW => run_move (by rfl) (by simp [Act.eval]) W)) ?_
          simp only [Act.put, List.getElem_toArray, List.getElem_cons_succ, List.getElem_cons_zero, List.setIfInBounds_toArray, List.set_cons_zero, List.set_cons_succ]
          refine u_take 11 rfl (o := _) rfl (by kernel_rfl) (by kernel_rfl) (by kernel_rfl) (.int .u32 ((n32 q : Nat) : Int)) (fun _ _ _ h => h) (g_value rfl (wanted_plain rfl) (fun f W hW => run_move (by rfl) (by simp [Act.eval]) W)) ?_
          simp only [Act.put, List.getElem_toArray, List.getElem_cons_succ, List.getElem_cons_zero, List.setIfInBounds_toArray, List.set_cons_zero, List.set_cons_succ]
          refine u_take 12 rfl (o := _) rfl (by kernel_rfl) (by kernel_rfl) (by kernel_rfl) (.int .u32 ((n32 (ff ^^^ q) : Nat) : Int)) (fun _ _ _ h => h) (g_value rfl (wanted_plain rfl) (fun f W hW => run_xor32 (by rfl) (ff) (q) (by simp [Act.eval]) (by simp [Act.eval]) W)) ?_
          simp only [Act.put, List.getElem_toArray, List.getElem_cons_succ, List.getElem_cons_zero, List.setIfInBounds_toArray, List.set_cons_zero, List.set_cons_succ]
          refine u_take 13 rfl (o := _) rfl (by kernel_rfl) (by kernel_rfl) (by kernel_rfl) (.int .u32 ((n32 (ee &&& (ff ^^^ q)) : Nat) : Int)) (fun _ _ _ h => h) (g_value rfl (wanted_plain rfl) (fun f W hW => run_and32 (by rfl) (ee) (ff ^^^ q) (by simp [Act.eval]) (by simp [Act.eval]) W)) ?_
          simp only [Act.put, List.getElem_toArray, List.getElem_cons_succ, List.getElem_cons_zero, List.setIfInBounds_toArray, List.set_cons_zero, List.set_cons_succ]
          refine u_take 14 rfl (o := _) rfl (by kernel_rfl) (by kernel_rfl) (by kernel_rfl) (.int .u32 ((n32 (q ^^^ ee &&& (ff ^^^ q)) : Nat) : Int)) (fun _ _ _ h => h) (g_value rfl (wanted_plain rfl) (fun f W hW => run_xor32 (by rfl) (q) (ee &&& (ff ^^^ q)) (by simp [Act.eval]) (by simp [Act.eval]) W)) ?_
          simp only [Act.put, List.getElem_toArray, List.getElem_cons_succ, List.getElem_cons_zero, List.setIfInBounds_toArray, List.set_cons_zero, List.set_cons_succ]
          refine u_take 15 rfl (o := _) rfl (by kernel_rfl) (by kernel_rfl) (by kernel_rfl) (.int .u32 ((n32 (h + Sha32.fifth ee + (q ^^^ ee &&& (ff ^^^ q))) : Nat) : Int)) (fun _ _ _ h => h) (g_value rfl (wanted_plain rfl) (fun f W hW => run_add32 (by rfl) (h + Sha32.fifth ee) (q ^^^ ee &&& (ff ^^^ q)) (by simp [Act.eval]) (by simp [Act.eval]) W)) ?_
          simp only [Act.put, List.getElem_toArray, List.getElem_cons_succ, List.getElem_cons_zero, List.setIfInBounds_toArray, List.set_cons_zero, List.set_cons_succ]
          refine u_take 16 rfl (o := _) rfl (by kernel_rfl) (by kernel_rfl) (by kernel_rfl) (.slice (some ⟨gk, 0, none⟩) 64 64) (fun _ _ _ h => h) (g_value rfl (wanted_plain rfl) (fun f W hW => run_move (by rfl) (by simp [Act.eval]) W)) ?_
          simp only [Act.put, List.getElem_toArray, List.getElem_cons_succ, List.getElem_cons_zero, List.setIfInBounds_toArray, List.set_cons_zero, List.set_cons_succ]
          refine u_take 17 rfl (o := _) rfl (by kernel_rfl) (by kernel_rfl) (by kernel_rfl) (.int .i64 (k : Int)) (fun _ _ _ h => h) (g_value rfl (wanted_plain rfl) (fun f W hW => run_move (by rfl) (by simp [Act.eval]) W)) ?_
          simp only [Act.put, List.getElem_toArray, List.getElem_cons_succ, List.getElem_cons_zero, List.setIfInBounds_toArray, List.set_cons_zero, List.set_cons_succ]
          refine u_take 18 rfl (o := _) rfl (by kernel_rfl) (by kernel_rfl) (by kernel_rfl) (.pointer (some ⟨gk, k, none⟩)) (fun _ _ _ h => h) (g_value rfl (wanted_plain rfl) (fun f W hW => run_indexAddr (by rfl) (by simp [Act.eval]) (by simp [Act.eval]) (index_sl32 gk 64 64 k (by omega)))) ?_
          simp only [Act.put, List.getElem_toArray, List.getElem_cons_succ, List.getElem_cons_zero, List.setIfInBounds_toArray, List.set_cons_zero, List.set_cons_succ]
          refine u_take 19 rfl (o := _) rfl (by kernel_rfl) (by kernel_rfl) (by kernel_rfl) (.int .u32 ((n32 (Sha32.at_ Sha32.K k) : Nat) : Int)) (fun _ _ _ h => h) (g_value rfl (wanted_plain rfl) (fun f W hW => run_execOp_load (by rfl) (by simp [Act.eval]) (run_load_u32 _ _ W (((BkR32.env hW).tb.cell k).trans (arr32_get _ k (by rw [Sha32.K_len]; omega)))))) ?_
          simp only [Act.put, List.getElem_toArray, List.getElem_cons_succ, List.getElem_cons_zero, List.setIfInBounds_toArray, List.set_cons_zero, List.set_cons_succ]
          refine u_take 20 rfl (o := _) rfl (by kernel_rfl) (by kernel_rfl) (by kernel_rfl) (.int .u32 ((n32 (h + Sha32.fifth ee + (q ^^^ ee &&& (ff ^^^ q)) + Sha32.at_ Sha32.K k) : Nat) : Int)) (fun _ _ _ h => h) (g_value rfl (wanted_plain rfl) (fun f W hW => run_add32 (by rfl) (h + Sha32.fifth ee + (q ^^^ ee &&& (ff ^^^ q))) (Sha32.at_ Sha32.K k) (by simp [Act.eval]) (by simp [Act.eval]) W)) ?_
          simp only [Act.put, List.getElem_toArray, List.getElem_cons_succ, List.getElem_cons_zero, List.setIfInBounds_toArray, List.set_cons_zero, List.set_cons_succ]
          refine u_take 21 rfl (o := _) rfl (by kernel_rfl) (by kernel_rfl) (by kernel_rfl) (.slice (some ⟨gv, 0, none⟩) l.length cap) (fun _ _ _ h => h) (g_value rfl (wanted_plain rfl) (fun f W hW => run_move (by rfl) (by simp [Act.eval]) W)) ?_
          simp only [Act.put, List.getElem_toArray, List.getElem_cons_succ, List.getElem_cons_zero, List.setIfInBounds_toArray, List.set_cons_zero, List.set_cons_succ]
          refine u_take 22 rfl (o := _) rfl (by kernel_rfl) (by kernel_rfl) (by kernel_rfl) (.int .i64 (k : Int)) (fun _ _ _ h => h) (g_value rfl (wanted_plain rfl) (fun f W hW => run_move (by rfl) (by simp [Act.eval]) W)) ?_
          simp only [Act.put, List.getElem_toArray, List.getElem_cons_succ, List.getElem_cons_zero, List.setIfInBounds_toArray, List.set_cons_zero, List.set_cons_succ]
          refine u_take 23 rfl (o := _) rfl (by kernel_rfl) (by kernel_rfl) (by kernel_rfl) (.pointer (some ⟨gv, k, none⟩)) (fun _ _ _ h => h) (g_value rfl (wanted_plain rfl) (fun f W hW => run_indexAddr (by rfl) (by simp [Act.eval]) (by simp [Act.eval]) (index_sl32 gv l.length cap k (by have := Hln.out; omega)))) ?_
          simp only [Act.put, List.getElem_toArray, List.getElem_cons_succ, List.getElem_cons_zero, List.setIfInBounds_toArray, List.set_cons_zero, List.set_cons_succ]
          refine u_take 24 rfl (o := _) rfl (by kernel_rfl) (by kernel_rfl) (by kernel_rfl) (.int .u32 ((n32 (Sha32.at_ l k) : Nat) : Int)) (fun _ _ _ h => h) (g_value rfl (wanted_plain rfl) (fun f W hW => run_execOp_load (by rfl) (by simp [Act.eval]) (run_load_u32 _ _ W ((BkR32.own hW).cell k (by have := Hln.out; omega))))) ?_
          simp only [Act.put, List.getElem_toArray, List.getElem_cons_succ, List.getElem_cons_zero, List.setIfInBounds_toArray, List.set_cons_zero, List.set_cons_succ]
          refine u_take 25 rfl (o := _) rfl (by kernel_rfl) (by kernel_rfl) (by kernel_rfl) (.int .u32 ((n32 (h + Sha32.fifth ee + (q ^^^ ee &&& (ff ^^^ q)) + Sha32.at_ Sha32.K k + Sha32.at_ l k) : Nat) : Int)) (fun _ _ _ h => h) (g_value rfl (wanted_plain rfl) (fun f W hW => run_add32 (by rfl) (h + Sha32.fifth ee + (q ^^^ ee &&& (ff ^^^ q)) + Sha32.at_ Sha32.K k) (Sha32.at_ l k) (by simp [Act.eval]) (by simp [Act.eval]) W)) ?_
          simp only [Act.put, List.getElem_toArray, List.getElem_cons_succ, List.getElem_cons_zero, List.setIfInBounds_toArray, List.set_cons_zero, List.set_cons_succ]
          refine u_take 26 rfl (o := _) rfl (by kernel_rfl) (by kernel_rfl) (by kernel_rfl) (.int .u32 ((n32 (h + Sha32.fifth ee + (q ^^^ ee &&& (ff ^^^ q)) + Sha32.at_ Sha32.K k + Sha32.at_ l k) : Nat) : Int)) (fun _ _ _ h => h) (g_value rfl (wanted_plain rfl) (fun f W hW => run_assign (by rfl) (by simp [Act.eval]) W)) ?_
          simp only [Act.put, List.getElem_toArray, List.getElem_cons_succ, List.getElem_cons_zero, List.setIfInBounds_toArray, List.set_cons_zero, List.set_cons_succ]
          refine u_done (by kernel_rfl) (fun W5 hW5 => ?_) _
          have hW5 : BkR32 w Bs g gk z cs gv cap l W5 := hW5
          have hfirst : Cells W5 ⟨z, 7, none⟩ [.int .i64 2, .int .i64 13, .int .i64 22] := hW5.env.kd.cells_at 7 _ (fun j v hv => by match j, hv with | 0, hv => exact hv | 1, hv => exact hv | 2, hv => exact hv | j + 3, hv => simp at hv)
          have hbits : W5.cell? ⟨z, 0, none⟩ = some (.int .i64 32) := hW5.env.kd.cell 0
          go_wp2_with (first | (go_at_call 80; refine (mixed32_any a 2 13 22 (by omega) (by omega) (by omega) false _).mono ?_; rintro e5 w5 ⟨rfl, hB5⟩) | (refine wpl_load rfl _ _ rfl ⟨z, 7, none⟩ rfl 3 agg3 [.int .i64 2, .int .i64 13, .int .i64 22] rfl hfirst ?_))
          exact ⟨⟨k + 1, Sha32.round l k ⟨a, b, c, d, ee, ff, q, h⟩, by omega, by congr 1 <;> omega, by rw [iter, HV.out], rfl, rfl, rfl, rfl, rfl, rfl, rfl, rfl, hW5.own.later hB5, hW5.env.next hB5⟩, by simp [intOf]; omega⟩
        · have ek : k = 64 := by omega
          subst ek
          have tk : ¬ ((64 : Nat) : Int) < 64 := by omega
          have Hblock := hd (show Sha32.block s l0 = iter (Sha32.add8 [a, b, c, d, ee, ff, q, h]) 8 s by rw [Sha32.block, Hll.out, HV.out]; rfl)
          have hst3 := hE.st
          have hk3 := hE.kept
          clear own hE
          obtain ⟨u, Hu⟩ : ∃ u, Hd ([a, b, c, d, ee, ff, q, h] = u) := ⟨_, ⟨rfl⟩⟩
          have Hul := hd (show u.length = 8 by rw [← Hu.out]; rfl)
          rw [Hu.out] at Hblock
          have Hix := hd (fun (k : Nat) (hk : k < 8) (W : World) => by
            have hh := run_index_arr32 (w := W) u Hul.out k hk
            rw [← Hu.out] at hh
            exact (show (Instr.index 67 (.agg #[.int .u32 ((n32 a : Nat) : Int), .int .u32 ((n32 b : Nat) : Int), .int .u32 ((n32 c : Nat) : Int), .int .u32 ((n32 d : Nat) : Int), .int .u32 ((n32 ee : Nat) : Int), .int .u32 ((n32 ff : Nat) : Int), .int .u32 ((n32 q : Nat) : Int), .int .u32 ((n32 h : Nat) : Int)]) (.int .i64 (k : Int))).run Tryz.prog W = .ok (.int .u32 ((n32 (Sha32.at_ [a, b, c, d, ee, ff, q, h] k) : Nat) : Int)) W from hh))
          rw [← Hcs.out] at hst3
          go_wp2
          go_loopw [165] (fun i wr => ∃ k : Nat, k ≤ 8 ∧ i = .int .i64 (k : Int) ∧ Blk wr g 70 (pre ++ arr32 (iter (Sha32.add8 u) k s) ++ post) ∧ Kept Bs g w wr) (fun i _ => 8 - (intOf i).toNat)
          case atStart => exact ⟨0, by omega, rfl, hst3, hk3⟩
          case round =>
            clear hst3 hk3
            obtain ⟨k, hk, rfl, hb, hK⟩ := hrel
            obtain ⟨sk, Hsk⟩ : ∃ y, Hd (iter (Sha32.add8 u) k s = y) := ⟨_, ⟨rfl⟩⟩
            rw [Hsk.out] at hb
            have Hskl := hd (show sk.length = 8 by rw [← Hsk.out, Sha32.add8_len, Hs.out])
            by_cases hlt : k < 8
            · have tk2 : (k : Int) < 8 := by omega
              have ck : wr.cell? ⟨g, 1 + k, none⟩ = some (.int .u32 ((n32 (Sha32.at_ sk k) : Nat) : Int)) := by
                have h := hb.cell (pre.size + k)
                rw [mid32_get pre post sk k (by rw [Hskl.out]; omega), hpre] at h
                exact h
              have fk := hb.frozen (1 + k)
              have hix := Hix.out k hlt
              rw [Hu.out] at hix
              have Hnx := hd (show iter (Sha32.add8 u) (k + 1) s = sk.set k (Sha32.at_ sk k + Sha32.at_ u k) by rw [iter, Hsk.out]; rfl)
              go_wp2
              go_region
              go_wp2
              clear hix
              go_roundw
              case rel =>
                refine ⟨k + 1, by omega, by go_num, ?_, (hK.trans (grown_kept (grew_setCell (World.grownBy.refl wr (some g)) (1 + k) _) (fun k hk => .inr (by injection hk with hk; exact hk.symm)) (Nat.le_trans hB hK.size))).trans (below_kept (Below.refl Bs _).drew (Nat.le_refl _))⟩
                have h := hb.set_ (1 + k) (W32 (Sha32.at_ sk k + Sha32.at_ u k))
                rw [← hpre, mid32_set pre post sk k _ (by rw [Hskl.out]; omega), hpre] at h
                rw [Hnx.out]
                exact h.drew
              case measure => simp [intOf]; omega
            · have ek : k = 8 := by omega
              subst ek
              have tk2 : ¬ ((8 : Nat) : Int) < 8 := by omega
              go_wp2
              go_end0
              refine ⟨rfl, ?_, hK⟩
              rw [Hblock.out, Hsk.out]
              first | exact hb | (rw [← Array.append_assoc]; exact hb)
def kind64 : Array Value := #[.int .i64 64, .int .i64 1, .int .i64 8, .int .i64 7, .int .i64 19, .int .i64 61, .int .i64 6, .int .i64 28, .int .i64 34, .int .i64 39, .int .i64 14, .int .i64 18, .int .i64 41]
theorem mid64_get (pre post : Array Value) (l : List UInt64) (i : Nat) (hi : i < l.length) : (pre ++ arr64 l ++ post)[pre.size + i]? = some (W64 (Sha64.at_ l i)) := by
  rw [Array.getElem?_append_left (by rw [Array.size_append, arr64_size]; omega), Array.getElem?_append_right (by omega), Nat.add_sub_cancel_left, arr64_get l i hi]
theorem mid64_set (pre post : Array Value) (l : List UInt64) (i : Nat) (x : UInt64) (hi : i < l.length) : (pre ++ arr64 l ++ post).setIfInBounds (pre.size + i) (W64 x) = pre ++ arr64 (l.set i x) ++ post := by
  rw [Array.setIfInBounds_append_left (by rw [Array.size_append, arr64_size]; omega), Array.setIfInBounds_append_right (by omega), Nat.add_sub_cancel_left, arr64_set]
theorem index_sl64 (g n c i : Nat) (hi : i < n) (w : World) : (Instr.indexAt 95 (.slice (some ⟨g, 0, none⟩) n c) (.int .i64 (i : Int))).run Tryz.prog w = .ok (.pointer (some ⟨g, i, none⟩)) w := by
  have h1 : (i : Int) < (n : Int) := by omega
  have h2 : (0 : Int) ≤ (i : Int) := by omega
  have h3 : ¬ n ≤ i := by omega
  have hs : (Tryz.prog.info? 54).map (·.size) = some 1 := by kernel_rfl
  simp [Instr.indexAt, go_sem, run_underlying Tryz.underlying95, run_sizeOf hs, h1, h2, h3, hi, asIntOf, Addr.add_lit]
theorem run_load_u64 (ad : Addr) (v : Value) (w : World) (h : w.cell? ad = some v) : (loadVar 54 ad).run Tryz.prog w = .ok v w := by
  simp [loadVar, go_sem, h]
theorem run_add64 {P : Program} {o : Oper} {ρ : Operand → Value} {x y : Operand} {t rt : TypeId} (ho : o.op = .binOp .add t x y rt) (a b : UInt64) (hx : ρ x = .int .u64 ((n64 a : Nat) : Int)) (hy : ρ y = .int .u64 ((n64 b : Nat) : Int)) (w : World) :
    (execOp ρ o).run P w = .ok (.value (.int .u64 ((n64 (a + b) : Nat) : Int))) w := by
  unfold execOp
  simp only [ho, hx, hy]
  simp [go_sem]
theorem run_and64 {P : Program} {o : Oper} {ρ : Operand → Value} {x y : Operand} {t rt : TypeId} (ho : o.op = .binOp .and t x y rt) (a b : UInt64) (hx : ρ x = .int .u64 ((n64 a : Nat) : Int)) (hy : ρ y = .int .u64 ((n64 b : Nat) : Int)) (w : World) :
    (execOp ρ o).run P w = .ok (.value (.int .u64 ((n64 (a &&& b) : Nat) : Int))) w := by
  unfold execOp
  simp only [ho, hx, hy]
  simp [go_sem]
theorem run_index_arr64 {w : World} (l : List UInt64) (hl : l.length = 8) (j : Nat) (hj : j < 8) :
    (Instr.index 68 (.agg (arr64 l)) (.int .i64 (j : Int))).run Tryz.prog w = .ok (W64 (Sha64.at_ l j)) w := by
  have hag : (isAgg 54).run Tryz.prog w = .ok false w := by simp [go_sem]
  have hs : (Tryz.prog.info? 54).map (·.size) = some 1 := by kernel_rfl
  have hg := arr64_get l j (by omega)
  have hjn : (j : Int) < 8 := by omega
  simp [Instr.index, asIntOf, run_underlying Tryz.underlying68, run_sizeOf hs, part, hag, hjn, hg]
  omega
theorem enter_mixed64 (args : Array Value) (w : World) : (callFunc 81 args).run Tryz.prog w = .ok (.enter 81 args) w := by kernel_rfl
/-- What stays while a block is taken in: the state, the table, the kind. -/
structure BkE64 (w : World) (Bs g gk z : Nat) (cs : Array Value) (W : World) : Prop where
  st : Blk W g 70 cs
  tb : Blk W gk 97 (arr64 Sha64.K)
  kd : Blk W z 92 kind64
  kept : Kept Bs g w W
  sz : Bs ≤ W.heap.size
section
variable {w : World} {Bs g gk z : Nat} {cs : Array Value} {W w' : World}
theorem BkE64.next (h : BkE64 w Bs g gk z cs W) (hb : Below W.heap.size W w') : BkE64 w Bs g gk z cs w' :=
  ⟨h.st.below hb h.st.lt, h.tb.below hb h.tb.lt, h.kd.below hb h.kd.lt, h.kept.trans (below_kept hb h.sz), Nat.le_trans h.sz hb.size⟩
theorem BkE64.appended {v : Value} {l : List UInt64} (h : BkE64 w Bs g gk z cs W) (ho : OwnW64 W Bs v l) {gv : Nat} (hv : v.ownBlock = some gv) (hg : W.grownBy w' (some gv)) : BkE64 w Bs g gk z cs w' := by
  have hg' : W.grownBy w' v.ownBlock := by rw [hv]; exact hg
  exact ⟨h.st.appendedW64 ho hg' (by decide), h.tb.appendedW64 ho hg' (by decide), h.kd.appendedW64 ho hg' (by decide), h.kept.trans (grown_kept hg (fun k hk => .inl (by injection hk with hk; subst hk; exact (ho.own.lt _ hv).1)) h.sz), Nat.le_trans h.sz hg.size⟩
end
/-- .. and the schedule. -/
structure BkR64 (w : World) (Bs g gk z : Nat) (cs : Array Value) (gv cap : Nat) (l : List UInt64) (W : World) : Prop where
  env : BkE64 w Bs g gk z cs W
  own : OwnW64 W Bs (.slice (some ⟨gv, 0, none⟩) l.length cap) l
section
variable {w : World} {Bs g gk z : Nat} {cs : Array Value} {gv cap : Nat} {l : List UInt64} {W w' : World}
theorem BkR64.next (h : BkR64 w Bs g gk z cs gv cap l W) (hb : Below W.heap.size W w') : BkR64 w Bs g gk z cs gv cap l w' := ⟨h.env.next hb, h.own.later hb⟩
theorem BkR64.call {P : Program} {f : FuncId} {args : Array Value} {v : Value} (h : BkR64 w Bs g gk z cs gv cap l W) (hc : Calls P f args W fun e w' => e = .returned v ∧ Below W.heap.size W w') :
    Calls P f args W fun e w' => e = .returned v ∧ BkR64 w Bs g gk z cs gv cap l w' := hc.mono fun _ _ ⟨he, hb⟩ => ⟨he, h.next hb⟩
end
/-- The schedule's region: before, with the one word laid, with it behind. -/
structure BkV64 (w : World) (Bs g gk z : Nat) (cs : Array Value) (gv cap : Nat) (l : List UInt64) (x : UInt64) (q : Option (Nat ⊕ Value)) (W : World) : Prop where
  env : BkE64 w Bs g gk z cs W
  lt : gv < W.heap.size
  old : ∀ i, i < l.length → W.cell? ⟨gv, i, none⟩ = some (W64 (Sha64.at_ l i))
  own : (q = none ∨ ∃ y, q = some (.inl y)) → OwnW64 W Bs (.slice (some ⟨gv, 0, none⟩) l.length cap) l
  one : ∀ y, q = some (.inl y) → ReadsW64 W W.heap.size (some ⟨y, 0, none⟩) 1 [x]
  done : ∀ u, q = some (.inr u) → OwnW64 W Bs u (l ++ [x])
section
variable {w : World} {Bs g gk z : Nat} {cs : Array Value} {gv cap : Nat} {l : List UInt64} {x : UInt64} {q : Option (Nat ⊕ Value)} {W w' : World}
theorem BkV64.next (h : BkV64 w Bs g gk z cs gv cap l x q W) (hb : Below W.heap.size W w') : BkV64 w Bs g gk z cs gv cap l x q w' :=
  ⟨h.env.next hb, Nat.lt_of_lt_of_le h.lt hb.size, fun i hi => (hb.cell (p := ⟨gv, i, none⟩) h.lt).trans (h.old i hi), fun hq => (h.own hq).later hb, fun y hy => ⟨(h.one y hy).len, ((h.one y hy).is.below hb).more hb.size⟩, fun u hu => (h.done u hu).later hb⟩
theorem BkV64.call {P : Program} {f : FuncId} {args : Array Value} {v : Value} (h : BkV64 w Bs g gk z cs gv cap l x q W) (hc : Calls P f args W fun e w' => e = .returned v ∧ Below W.heap.size W w') :
    Calls P f args W fun e w' => e = .returned v ∧ BkV64 w Bs g gk z cs gv cap l x q w' := hc.mono fun _ _ ⟨he, hb⟩ => ⟨he, h.next hb⟩
end
set_option maxHeartbeats 8000000 in
set_option maxRecDepth 100000 in
theorem sched64_region {Q : Exit → Act → World → Prop} (w : World) (Bs g gk z : Nat) (cs : Array Value) (gv cap : Nat) (l : List UInt64) (W0 : World) : True := by
  trivial
set_option maxHeartbeats 8000000 in
set_option maxRecDepth 100000 in
theorem blocked64_any (g gk : Nat) (pre post : Array Value) (s : List UInt64) (hpre : pre.size = 9) (hs : s.length = 8) (Bs : Nat) (v : Value) (l0 : List UInt64) (w : World) (hst : Blk w g 70 (pre ++ arr64 s ++ post)) (htb : Blk w gk 97 (arr64 Sha64.K)) (hg : g < Bs) (hgk : gk < Bs) (hB : Bs ≤ w.heap.size) (hw : OwnW64 w Bs v l0) (hl : l0.length = 16) :
    Calls Tryz.prog 67 #[.pointer (some ⟨g, 9, none⟩), v, .slice (some ⟨gk, 0, none⟩) 80 80, .agg kind64] w fun e w' => e = .returned (.tuple #[]) ∧ Blk w' g 70 (pre ++ arr64 (Sha64.block s l0) ++ post) ∧ Kept Bs g w w' := by
  have Hl := hd hl
  have Hs := hd hs
  clear hl hs
  obtain ⟨cs, Hcs⟩ : ∃ c, Hd (pre ++ arr64 s ++ post = c) := ⟨_, ⟨rfl⟩⟩
  rw [Hcs.out] at hst
  have hA := (Below.refl w.heap.size w).alloc (Nat.le_refl _) (.cells kind64 92)
  have hE0 : BkE64 w Bs g gk w.heap.size cs (w.alloc (.cells kind64 92)) := ⟨hst.below hA hst.lt, htb.below hA htb.lt, Blk.nu rfl, below_kept hA hB, Nat.le_trans hB hA.size⟩
  have hw1 := hw.alloc (.cells kind64 92)
  go_enter Tryz.func67, Tryz.ntmps67
  go_wp2
  obtain ⟨z, Hz⟩ : ∃ z, Hd (w.heap.size = z) := ⟨_, ⟨rfl⟩⟩
  rw [Hz.out] at hE0 ⊢
  go_loopw [1, 8] (fun v t wr => ∃ (j : Nat), j ≤ 64 ∧ t = .int .i64 ((16 + j : Nat) : Int) ∧ OwnW64 wr Bs v (iter Sha64.more j l0) ∧ BkE64 w Bs g gk z cs wr) (fun _ t _ => 80 - (intOf t).toNat)
  case atStart => exact ⟨0, by omega, rfl, hw1, hE0⟩
  case round =>
    clear hw1 hE0
    obtain ⟨j, hj, rfl, own, hE⟩ := hrel
    obtain ⟨l, Hll⟩ : ∃ l, Hd (iter Sha64.more j l0 = l) := ⟨_, ⟨rfl⟩⟩
    rw [Hll.out] at own
    have hln : l.length = 16 + j := by rw [← Hll.out, Sha64.more_len, Hl.out]
    obtain ⟨gv, cap, e1, hgv1, hgv2, hcap⟩ := own.form (by omega)
    subst e1
    by_cases hlt : j < 64
    · rw [← hln]
      obtain ⟨m2, Hm2⟩ : ∃ m, Hd (l.length - 2 = m) := ⟨_, ⟨rfl⟩⟩
      obtain ⟨m7, Hm7⟩ : ∃ m, Hd (l.length - 7 = m) := ⟨_, ⟨rfl⟩⟩
      obtain ⟨m15, Hm15⟩ : ∃ m, Hd (l.length - 15 = m) := ⟨_, ⟨rfl⟩⟩
      obtain ⟨m16, Hm16⟩ : ∃ m, Hd (l.length - 16 = m) := ⟨_, ⟨rfl⟩⟩
      have b2 := Hm2.out
      have b7 := Hm7.out
      have b15 := Hm15.out
      have b16 := Hm16.out
      obtain ⟨x, Hx⟩ : ∃ x, Hd (Sha64.far (Sha64.at_ l m2) + Sha64.at_ l m7 + Sha64.near (Sha64.at_ l m15) + Sha64.at_ l m16 = x) := ⟨_, ⟨rfl⟩⟩
      have Hnx := hd (show iter Sha64.more (j + 1) l0 = l ++ [x] by rw [iter, Hll.out, Sha64.more, Sha64.next, Hm2.out, Hm7.out, Hm15.out, Hm16.out, Hx.out])
      have tk : (l.length : Int) < 80 := by omega
      go_wp2
      have hS0 : BkV64 w Bs g gk z cs gv cap l x none wr := ⟨hE, hgv2, fun i hi => own.cell i hi, fun _ => own, (fun _ h => by cases h), (fun _ h => by cases h)⟩
      clear own hE
      refine v_start (S := BkV64 w Bs g gk z cs gv cap l x) (fun _ _ => True) none (by kernel_rfl) (hS0.next (Below.refl _ _).drew) ?_
      clear hS0
      refine v_take (fun _ => trivial) (fun _ _ _ _ _ => trivial) 0 (o := _) rfl (by kernel_rfl) (by kernel_rfl) (by kernel_rfl) (.slice (some ⟨gv, 0, none⟩) l.length cap) (fun _ _ _ h => h) (gv_value (wanted_plain rfl) (fun g1 hg W hW => run_move (by rfl) (by simp [Act.eval]) W)) ?_
      simp only [Act.put, List.getElem_toArray, List.getElem_cons_succ, List.getElem_cons_zero, List.setIfInBounds_toArray, List.set_cons_zero, List.set_cons_succ]
      refine v_take (fun _ => trivial) (fun _ _ _ _ _ => trivial) 1 (o := _) rfl (by kernel_rfl) (by kernel_rfl) (by kernel_rfl) (.slice (some ⟨gv, 0, none⟩) l.length cap) (fun _ _ _ h => h) (gv_value (wanted_plain rfl) (fun g1 hg W hW => run_move (by rfl) (by simp [Act.eval]) W)) ?_
      simp only [Act.put, List.getElem_toArray, List.getElem_cons_succ, List.getElem_cons_zero, List.setIfInBounds_toArray, List.set_cons_zero, List.set_cons_succ]
      refine v_take (fun _ => trivial) (fun _ _ _ _ _ => trivial) 2 (o := _) rfl (by kernel_rfl) (by kernel_rfl) (by kernel_rfl) (.int .i64 ((l.length : Nat) : Int)) (fun _ _ _ h => h) (gv_value (wanted_plain rfl) (fun g1 hg W hW => run_move (by rfl) (by simp [Act.eval]) W)) ?_
      simp only [Act.put, List.getElem_toArray, List.getElem_cons_succ, List.getElem_cons_zero, List.setIfInBounds_toArray, List.set_cons_zero, List.set_cons_succ]
      refine v_take (fun _ => trivial) (fun _ _ _ _ _ => trivial) 3 (o := _) rfl (by kernel_rfl) (by kernel_rfl) (by kernel_rfl) (.int .i64 ((m2 : Nat) : Int)) (fun _ _ _ h => h) (gv_value (wanted_plain rfl) (fun g1 hg W hW => run_subI (by rfl) (l.length : Int) 2 (m2 : Int) (by simp [Act.eval]) (by simp [Act.eval]) (sub_nat l.length 2 m2 (by omega) (by omega)))) ?_
      simp only [Act.put, List.getElem_toArray, List.getElem_cons_succ, List.getElem_cons_zero, List.setIfInBounds_toArray, List.set_cons_zero, List.set_cons_succ]
      refine v_take (fun _ => trivial) (fun _ _ _ _ _ => trivial) 4 (o := _) rfl (by kernel_rfl) (by kernel_rfl) (by kernel_rfl) (.pointer (some ⟨gv, m2, none⟩)) (fun _ _ _ h => h) (gv_value (wanted_plain rfl) (fun g1 hg W hW => run_indexAddr (by rfl) (by simp [Act.eval]) (by simp [Act.eval]) (index_sl64 gv l.length cap m2 (by omega)))) ?_
      simp only [Act.put, List.getElem_toArray, List.getElem_cons_succ, List.getElem_cons_zero, List.setIfInBounds_toArray, List.set_cons_zero, List.set_cons_succ]
      refine v_take (fun _ => trivial) (fun _ _ _ _ _ => trivial) 5 (o := _) rfl (by kernel_rfl) (by kernel_rfl) (by kernel_rfl) (.int .u64 ((n64 (Sha64.at_ l m2) : Nat) : Int)) (fun _ _ _ h => h) (gv_value (wanted_plain rfl) (fun g1 hg W hW => run_execOp_load (by rfl) (by simp [Act.eval]) (run_load_u64 _ _ W (BkV64.old hW m2 (by omega))))) ?_
      simp only [Act.put, List.getElem_toArray, List.getElem_cons_succ, List.getElem_cons_zero, List.setIfInBounds_toArray, List.set_cons_zero, List.set_cons_succ]
      refine v_take (fun _ => trivial) (fun _ _ _ _ _ => trivial) 6 (o := _) rfl (by kernel_rfl) (by kernel_rfl) (by kernel_rfl) (.pointer (some ⟨z, 0, none⟩)) (fun _ _ _ h => h) (gv_value (wanted_plain rfl) (fun g1 hg W hW => run_fieldAddr (by rfl) (by simp [Act.eval]) (field_kind z 0 0 (by simp)))) ?_
      simp only [Act.put, List.getElem_toArray, List.getElem_cons_succ, List.getElem_cons_zero, List.setIfInBounds_toArray, List.set_cons_zero, List.set_cons_succ]
      refine v_take (fun _ => trivial) (fun _ _ _ _ _ => trivial) 7 (o := _) rfl (by kernel_rfl) (by kernel_rfl) (by kernel_rfl) (.int .i64 64) (fun _ _ _ h => h) (gv_value (wanted_plain rfl) (fun g1 hg W hW => run_execOp_load (by rfl) (by simp [Act.eval]) (run_load_i64 _ _ W ((BkV64.env hW).kd.cell 0)))) ?_
      simp only [Act.put, List.getElem_toArray, List.getElem_cons_succ, List.getElem_cons_zero, List.setIfInBounds_toArray, List.set_cons_zero, List.set_cons_succ]
      refine v_take (fun _ => trivial) (fun _ _ _ _ _ => trivial) 8 (o := _) rfl (by kernel_rfl) (by kernel_rfl) (by kernel_rfl) (.pointer (some ⟨z, 4, none⟩)) (fun _ _ _ h => h) (gv_value (wanted_plain rfl) (fun g1 hg W hW => run_fieldAddr (by rfl) (by simp [Act.eval]) (field_kind z 2 4 (by simp)))) ?_
      simp only [Act.put, List.getElem_toArray, List.getElem_cons_succ, List.getElem_cons_zero, List.setIfInBounds_toArray, List.set_cons_zero, List.set_cons_succ]
      refine v_take (fun _ => trivial) (fun _ _ _ _ _ => trivial) 9 (o := _) rfl (by kernel_rfl) (by kernel_rfl) (by kernel_rfl) (.agg (three 19 61 6)) (fun _ _ _ h => h) (gv_value (wanted_plain rfl) (fun g1 hg W hW => run_execOp_load (by rfl) (by simp [Act.eval]) (run_loadVar_cells agg3 ⟨z, 4, none⟩ [.int .i64 19, .int .i64 61, .int .i64 6] rfl ((BkV64.env hW).kd.cells_at 4 _ (fun j v hv => by match j, hv with | 0, hv => exact hv | 1, hv => exact hv | 2, hv => exact hv | j + 3, hv => simp at hv)).is))) ?_
      simp only [Act.put, List.getElem_toArray, List.getElem_cons_succ, List.getElem_cons_zero, List.setIfInBounds_toArray, List.set_cons_zero, List.set_cons_succ]
      refine v_take (fun _ => trivial) (fun _ _ _ _ _ => trivial) 11 (o := _) rfl (by kernel_rfl) (by kernel_rfl) (by kernel_rfl) (.slice (some ⟨gv, 0, none⟩) l.length cap) (fun _ _ _ h => h) (gv_value (wanted_plain rfl) (fun g1 hg W hW => run_move (by rfl) (by simp [Act.eval]) W)) ?_
      simp only [Act.put, List.getElem_toArray, List.getElem_cons_succ, List.getElem_cons_zero, List.setIfInBounds_toArray, List.set_cons_zero, List.set_cons_succ]
      refine v_take (fun _ => trivial) (fun _ _ _ _ _ => trivial) 12 (o := _) rfl (by kernel_rfl) (by kernel_rfl) (by kernel_rfl) (.int .i64 ((l.length : Nat) : Int)) (fun _ _ _ h => h) (gv_value (wanted_plain rfl) (fun g1 hg W hW => run_move (by rfl) (by simp [Act.eval]) W)) ?_
      simp only [Act.put, List.getElem_toArray, List.getElem_cons_succ, List.getElem_cons_zero, List.setIfInBounds_toArray, List.set_cons_zero, List.set_cons_succ]
      refine v_take (fun _ => trivial) (fun _ _ _ _ _ => trivial) 13 (o := _) rfl (by kernel_rfl) (by kernel_rfl) (by kernel_rfl) (.int .i64 ((m7 : Nat) : Int)) (fun _ _ _ h => h) (gv_value (wanted_plain rfl) (fun g1 hg W hW => run_subI (by rfl) (l.length : Int) 7 (m7 : Int) (by simp [Act.eval]) (by simp [Act.eval]) (sub_nat l.length 7 m7 (by omega) (by omega)))) ?_
      simp only [Act.put, List.getElem_toArray, List.getElem_cons_succ, List.getElem_cons_zero, List.setIfInBounds_toArray, List.set_cons_zero, List.set_cons_succ]
      refine v_take (fun _ => trivial) (fun _ _ _ _ _ => trivial) 14 (o := _) rfl (by kernel_rfl) (by kernel_rfl) (by kernel_rfl) (.pointer (some ⟨gv, m7, none⟩)) (fun _ _ _ h => h) (gv_value (wanted_plain rfl) (fun g1 hg W hW => run_indexAddr (by rfl) (by simp [Act.eval]) (by simp [Act.eval]) (index_sl64 gv l.length cap m7 (by omega)))) ?_
      simp only [Act.put, List.getElem_toArray, List.getElem_cons_succ, List.getElem_cons_zero, List.setIfInBounds_toArray, List.set_cons_zero, List.set_cons_succ]
      refine v_take (fun _ => trivial) (fun _ _ _ _ _ => trivial) 15 (o := _) rfl (by kernel_rfl) (by kernel_rfl) (by kernel_rfl) (.int .u64 ((n64 (Sha64.at_ l m7) : Nat) : Int)) (fun _ _ _ h => h) (gv_value (wanted_plain rfl) (fun g1 hg W hW => run_execOp_load (by rfl) (by simp [Act.eval]) (run_load_u64 _ _ W (BkV64.old hW m7 (by omega))))) ?_
      simp only [Act.put, List.getElem_toArray, List.getElem_cons_succ, List.getElem_cons_zero, List.setIfInBounds_toArray, List.set_cons_zero, List.set_cons_succ]
      refine v_take (fun _ => trivial) (fun _ _ _ _ _ => trivial) 17 (o := _) rfl (by kernel_rfl) (by kernel_rfl) (by kernel_rfl) (.slice (some ⟨gv, 0, none⟩) l.length cap) (fun _ _ _ h => h) (gv_value (wanted_plain rfl) (fun g1 hg W hW => run_move (by rfl) (by simp [Act.eval]) W)) ?_
      simp only [Act.put, List.getElem_toArray, List.getElem_cons_succ, List.getElem_cons_zero, List.setIfInBounds_toArray, List.set_cons_zero, List.set_cons_succ]
      refine v_take (fun _ => trivial) (fun _ _ _ _ _ => trivial) 18 (o := _) rfl (by kernel_rfl) (by kernel_rfl) (by kernel_rfl) (.int .i64 ((l.length : Nat) : Int)) (fun _ _ _ h => h) (gv_value (wanted_plain rfl) (fun g1 hg W hW => run_move (by rfl) (by simp [Act.eval]) W)) ?_
      simp only [Act.put, List.getElem_toArray, List.getElem_cons_succ, List.getElem_cons_zero, List.setIfInBounds_toArray, List.set_cons_zero, List.set_cons_succ]
      refine v_take (fun _ => trivial) (fun _ _ _ _ _ => trivial) 19 (o := _) rfl (by kernel_rfl) (by kernel_rfl) (by kernel_rfl) (.int .i64 ((m15 : Nat) : Int)) (fun _ _ _ h => h) (gv_value (wanted_plain rfl) (fun g1 hg W hW => run_subI (by rfl) (l.length : Int) 15 (m15 : Int) (by simp [Act.eval]) (by simp [Act.eval]) (sub_nat l.length 15 m15 (by omega) (by omega)))) ?_
      simp only [Act.put, List.getElem_toArray, List.getElem_cons_succ, List.getElem_cons_zero, List.setIfInBounds_toArray, List.set_cons_zero, List.set_cons_succ]
      refine v_take (fun _ => trivial) (fun _ _ _ _ _ => trivial) 20 (o := _) rfl (by kernel_rfl) (by kernel_rfl) (by kernel_rfl) (.pointer (some ⟨gv, m15, none⟩)) (fun _ _ _ h => h) (gv_value (wanted_plain rfl) (fun g1 hg W hW => run_indexAddr (by rfl) (by simp [Act.eval]) (by simp [Act.eval]) (index_sl64 gv l.length cap m15 (by omega)))) ?_
      simp only [Act.put, List.getElem_toArray, List.getElem_cons_succ, List.getElem_cons_zero, List.setIfInBounds_toArray, List.set_cons_zero, List.set_cons_succ]
      refine v_take (fun _ => trivial) (fun _ _ _ _ _ => trivial) 21 (o := _) rfl (by kernel_rfl) (by kernel_rfl) (by kernel_rfl) (.int .u64 ((n64 (Sha64.at_ l m15) : Nat) : Int)) (fun _ _ _ h => h) (gv_value (wanted_plain rfl) (fun g1 hg W hW => run_execOp_load (by rfl) (by simp [Act.eval]) (run_load_u64 _ _ W (BkV64.old hW m15 (by omega))))) ?_
      simp only [Act.put, List.getElem_toArray, List.getElem_cons_succ, List.getElem_cons_zero, List.setIfInBounds_toArray, List.set_cons_zero, List.set_cons_succ]
      refine v_take (fun _ => trivial) (fun _ _ _ _ _ => trivial) 22 (o := _) rfl (by kernel_rfl) (by kernel_rfl) (by kernel_rfl) (.pointer (some ⟨z, 0, none⟩)) (fun _ _ _ h => h) (gv_value (wanted_plain rfl) (fun g1 hg W hW => run_fieldAddr (by rfl) (by simp [Act.eval]) (field_kind z 0 0 (by simp)))) ?_
      simp only [Act.put, List.getElem_toArray, List.getElem_cons_succ, List.getElem_cons_zero, List.setIfInBounds_toArray, List.set_cons_zero, List.set_cons_succ]
      refine v_take (fun _ => trivial) (fun _ _ _ _ _ => trivial) 23 (o := _) rfl (by kernel_rfl) (by kernel_rfl) (by kernel_rfl) (.int .i64 64) (fun _ _ _ h => h) (gv_value (wanted_plain rfl) (fun g1 hg W hW => run_execOp_load (by rfl) (by simp [Act.eval]) (run_load_i64 _ _ W ((BkV64.env hW).kd.cell 0)))) ?_
      simp only [Act.put, List.getElem_toArray, List.getElem_cons_succ, List.getElem_cons_zero, List.setIfInBounds_toArray, List.set_cons_zero, List.set_cons_succ]
      refine v_take (fun _ => trivial) (fun _ _ _ _ _ => trivial) 24 (o := _) rfl (by kernel_rfl) (by kernel_rfl) (by kernel_rfl) (.pointer (some ⟨z, 1, none⟩)) (fun _ _ _ h => h) (gv_value (wanted_plain rfl) (fun g1 hg W hW => run_fieldAddr (by rfl) (by simp [Act.eval]) (field_kind z 1 1 (by simp)))) ?_
      simp only [Act.put, List.getElem_toArray, List.getElem_cons_succ, List.getElem_cons_zero, List.setIfInBounds_toArray, List.set_cons_zero, List.set_cons_succ]
      refine v_take (fun _ => trivial) (fun _ _ _ _ _ => trivial) 25 (o := _) rfl (by kernel_rfl) (by kernel_rfl) (by kernel_rfl) (.agg (three 1 8 7)) (fun _ _ _ h => h) (gv_value (wanted_plain rfl) (fun g1 hg W hW => run_execOp_load (by rfl) (by simp [Act.eval]) (run_loadVar_cells agg3 ⟨z, 1, none⟩ [.int .i64 1, .int .i64 8, .int .i64 7] rfl ((BkV64.env hW).kd.cells_at 1 _ (fun j v hv => by match j, hv with | 0, hv => exact hv | 1, hv => exact hv | 2, hv => exact hv | j + 3, hv => simp at hv)).is))) ?_
      simp only [Act.put, List.getElem_toArray, List.getElem_cons_succ, List.getElem_cons_zero, List.setIfInBounds_toArray, List.set_cons_zero, List.set_cons_succ]
      refine v_take (fun _ => trivial) (fun _ _ _ _ _ => trivial) 28 (o := _) rfl (by kernel_rfl) (by kernel_rfl) (by kernel_rfl) (.slice (some ⟨gv, 0, none⟩) l.length cap) (fun _ _ _ h => h) (gv_value (wanted_plain rfl) (fun g1 hg W hW => run_move (by rfl) (by simp [Act.eval]) W)) ?_
      simp only [Act.put, List.getElem_toArray, List.getElem_cons_succ, List.getElem_cons_zero, List.setIfInBounds_toArray, List.set_cons_zero, List.set_cons_succ]
      refine v_take (fun _ => trivial) (fun _ _ _ _ _ => trivial) 29 (o := _) rfl (by kernel_rfl) (by kernel_rfl) (by kernel_rfl) (.int .i64 ((l.length : Nat) : Int)) (fun _ _ _ h => h) (gv_value (wanted_plain rfl) (fun g1 hg W hW => run_move (by rfl) (by simp [Act.eval]) W)) ?_
      simp only [Act.put, List.getElem_toArray, List.getElem_cons_succ, List.getElem_cons_zero, List.setIfInBounds_toArray, List.set_cons_zero, List.set_cons_succ]
      refine v_take (fun _ => trivial) (fun _ _ _ _ _ => trivial) 30 (o := _) rfl (by kernel_rfl) (by kernel_rfl) (by kernel_rfl) (.int .i64 ((m16 : Nat) : Int)) (fun _ _ _ h => h) (gv_value (wanted_plain rfl) (fun g1 hg W hW => run_subI (by rfl) (l.length : Int) 16 (m16 : Int) (by simp [Act.eval]) (by simp [Act.eval]) (sub_nat l.length 16 m16 (by omega) (by omega)))) ?_
      simp only [Act.put, List.getElem_toArray, List.getElem_cons_succ, List.getElem_cons_zero, List.setIfInBounds_toArray, List.set_cons_zero, List.set_cons_succ]
      refine v_take (fun _ => trivial) (fun _ _ _ _ _ => trivial) 31 (o := _) rfl (by kernel_rfl) (by kernel_rfl) (by kernel_rfl) (.pointer (some ⟨gv, m16, none⟩)) (fun _ _ _ h => h) (gv_value (wanted_plain rfl) (fun g1 hg W hW => run_indexAddr (by rfl) (by simp [Act.eval]) (by simp [Act.eval]) (index_sl64 gv l.length cap m16 (by omega)))) ?_
      simp only [Act.put, List.getElem_toArray, List.getElem_cons_succ, List.getElem_cons_zero, List.setIfInBounds_toArray, List.set_cons_zero, List.set_cons_succ]
      refine v_take (fun _ => trivial) (fun _ _ _ _ _ => trivial) 32 (o := _) rfl (by kernel_rfl) (by kernel_rfl) (by kernel_rfl) (.int .u64 ((n64 (Sha64.at_ l m16) : Nat) : Int)) (fun _ _ _ h => h) (gv_value (wanted_plain rfl) (fun g1 hg W hW => run_execOp_load (by rfl) (by simp [Act.eval]) (run_load_u64 _ _ W (BkV64.old hW m16 (by omega))))) ?_
      simp only [Act.put, List.getElem_toArray, List.getElem_cons_succ, List.getElem_cons_zero, List.setIfInBounds_toArray, List.set_cons_zero, List.set_cons_succ]
      refine v_take (fun _ => trivial) (fun _ _ _ _ _ => trivial) 10 (o := _) rfl (by kernel_rfl) (by kernel_rfl) (by kernel_rfl) (.int .u64 ((n64 (Sha64.far (Sha64.at_ l m2)) : Nat) : Int)) (fun _ _ _ h => h) (gv_call (wanted_plain rfl) 81 _ _ rfl #[.int .u64 ((n64 (Sha64.at_ l m2) : Nat) : Int), .int .i64 64, .agg (three 19 61 6), .bool true] (by simp [Act.eval]) (enter_mixed64 _) (fun g1 hg W hW => BkV64.call hW (mixed64_any (Sha64.at_ l m2) 19 61 6 (by omega) (by omega) (by omega) true W))) ?_
      simp only [Act.put, List.getElem_toArray, List.getElem_cons_succ, List.getElem_cons_zero, List.setIfInBounds_toArray, List.set_cons_zero, List.set_cons_succ]
      refine v_take (fun _ => trivial) (fun _ _ _ _ _ => trivial) 16 (o := _) rfl (by kernel_rfl) (by kernel_rfl) (by kernel_rfl) (.int .u64 ((n64 (Sha64.far (Sha64.at_ l m2) + Sha64.at_ l m7) : Nat) : Int)) (fun _ _ _ h => h) (gv_value (wanted_plain rfl) (fun g1 hg W hW => run_add64 (by rfl) (Sha64.far (Sha64.at_ l m2)) (Sha64.at_ l m7) (by simp [Act.eval]) (by simp [Act.eval]) W)) ?_
      simp only [Act.put, List.getElem_toArray, List.getElem_cons_succ, List.getElem_cons_zero, List.setIfInBounds_toArray, List.set_cons_zero, List.set_cons_succ]
      refine v_take (fun _ => trivial) (fun _ _ _ _ _ => trivial) 26 (o := _) rfl (by kernel_rfl) (by kernel_rfl) (by kernel_rfl) (.int .u64 ((n64 (Sha64.near (Sha64.at_ l m15)) : Nat) : Int)) (fun _ _ _ h => h) (gv_call (wanted_plain rfl) 81 _ _ rfl #[.int .u64 ((n64 (Sha64.at_ l m15) : Nat) : Int), .int .i64 64, .agg (three 1 8 7), .bool true] (by simp [Act.eval]) (enter_mixed64 _) (fun g1 hg W hW => BkV64.call hW (mixed64_any (Sha64.at_ l m15) 1 8 7 (by omega) (by omega) (by omega) true W))) ?_
      simp only [Act.put, List.getElem_toArray, List.getElem_cons_succ, List.getElem_cons_zero, List.setIfInBounds_toArray, List.set_cons_zero, List.set_cons_succ]
      refine v_take (fun _ => trivial) (fun _ _ _ _ _ => trivial) 27 (o := _) rfl (by kernel_rfl) (by kernel_rfl) (by kernel_rfl) (.int .u64 ((n64 (Sha64.far (Sha64.at_ l m2) + Sha64.at_ l m7 + Sha64.near (Sha64.at_ l m15)) : Nat) : Int)) (fun _ _ _ h => h) (gv_value (wanted_plain rfl) (fun g1 hg W hW => run_add64 (by rfl) (Sha64.far (Sha64.at_ l m2) + Sha64.at_ l m7) (Sha64.near (Sha64.at_ l m15)) (by simp [Act.eval]) (by simp [Act.eval]) W)) ?_
      simp only [Act.put, List.getElem_toArray, List.getElem_cons_succ, List.getElem_cons_zero, List.setIfInBounds_toArray, List.set_cons_zero, List.set_cons_succ]
      refine v_take (fun _ => trivial) (fun _ _ _ _ _ => trivial) 33 (o := _) rfl (by kernel_rfl) (by kernel_rfl) (by kernel_rfl) (.int .u64 ((n64 (Sha64.far (Sha64.at_ l m2) + Sha64.at_ l m7 + Sha64.near (Sha64.at_ l m15) + Sha64.at_ l m16) : Nat) : Int)) (fun _ _ _ h => h) (gv_value (wanted_plain rfl) (fun g1 hg W hW => run_add64 (by rfl) (Sha64.far (Sha64.at_ l m2) + Sha64.at_ l m7 + Sha64.near (Sha64.at_ l m15)) (Sha64.at_ l m16) (by simp [Act.eval]) (by simp [Act.eval]) W)) ?_
      simp only [Act.put, List.getElem_toArray, List.getElem_cons_succ, List.getElem_cons_zero, List.setIfInBounds_toArray, List.set_cons_zero, List.set_cons_succ]
      refine v_each (rs := [34]) (by kernel_rfl) (by simp) (fun i hi W hW => ?_)
      obtain rfl : i = 34 := by simpa using hi
      clear hi
      refine ⟨_, rfl, wanted_plain rfl, .inl ⟨_, _, some (.inl W.heap.size), run_buildW64 (by rfl) x (by simp [Act.eval, Hx.out]), trivial, ?_, ?_⟩⟩
      · have h1 := hW.next ((Below.refl W.heap.size W).alloc (Nat.le_refl _) (.cells #[W64 x] 54))
        exact ⟨h1.env, h1.lt, h1.old, fun _ => h1.own (.inl rfl), fun y hy => by
          injection hy with hy; injection hy with hy; subst hy
          have h2 := ReadsW64.one W x
          exact ⟨h2.len, h2.is.more (by simp)⟩, fun u hu => by cases hu⟩
      obtain ⟨y, Hy⟩ : ∃ y, Hd (W.heap.size = y) := ⟨_, ⟨rfl⟩⟩
      rw [Hy.out]
      clear hW
      simp only [Act.put, List.getElem_toArray, List.getElem_cons_succ, List.getElem_cons_zero, List.setIfInBounds_toArray, List.set_cons_zero, List.set_cons_succ]
      refine v_each (rs := [35]) (by kernel_rfl) (by simp) (fun i hi W2 hW2 => ?_)
      obtain rfl : i = 35 := by simpa using hi
      clear hi
      refine ⟨_, rfl, wanted_plain rfl, .inl (run_appendKeepV64 (w := W2) (B := Bs) (l := l) (by rfl) gv cap (by simp [Act.eval]) (hW2.own (.inr ⟨y, rfl⟩)) (by omega) W2.heap.size ⟨y, 0, none⟩ 1 x (by simp [Act.eval]) (hW2.one y rfl) (by omega) hW2.env.sz ?_)⟩
      intro v' w' h1 h2 h3
      refine ⟨some (.inr v'), trivial, ⟨hW2.env.appended (hW2.own (.inr ⟨y, rfl⟩)) rfl h2, Nat.lt_of_lt_of_le hW2.lt h2.size, h3, (fun hq => by rcases hq with hq | ⟨_, hq⟩ <;> cases hq), (fun _ hq => by cases hq), (fun u hu => by injection hu with hu; injection hu with hu; subst hu; exact h1)⟩, ?_⟩
      clear hW2 h1 h2 h3
      simp only [Act.put, List.getElem_toArray, List.getElem_cons_succ, List.getElem_cons_zero, List.setIfInBounds_toArray, List.set_cons_zero, List.set_cons_succ]
      refine v_take (fun _ => trivial) (fun _ _ _ _ _ => trivial) 36 (o := _) rfl (by kernel_rfl) (by kernel_rfl) (by kernel_rfl) (v') (fun _ _ _ h => h) (gv_value (wanted_plain rfl) (fun g1 hg W hW => run_assign (by rfl) (by simp [Act.eval]) W)) ?_
      simp only [Act.put, List.getElem_toArray, List.getElem_cons_succ, List.getElem_cons_zero, List.setIfInBounds_toArray, List.set_cons_zero, List.set_cons_succ]
      refine v_done (by kernel_rfl) (fun W3 hW3 => ?_) _
      have own3 := hW3.done _ rfl
      have hE3 := hW3.env
      rw [← Hnx.out] at own3
      clear hW3
      go_wp2
      go_roundw
      case rel => exact ⟨j + 1, by omega, by congr 1 <;> omega, own3, hE3⟩
      case measure => simp [intOf]; omega
    · have ej : j = 64 := by omega
      subst ej
      have tk : ¬ (((16 + 64 : Nat) : Int)) < 80 := by omega
      have Hln := hd hln
      have Hgv := hd (And.intro hgv1 hgv2)
      clear hgv1 hgv2 hcap hj hlt hln
      have c0 : wr.cell? ⟨g, 9, none⟩ = some (.int .u64 ((n64 (Sha64.at_ s 0) : Nat) : Int)) := by
        have h := hE.st.cell (pre.size + 0)
        rw [← Hcs.out, mid64_get pre post s 0 (by rw [Hs.out]; omega), hpre] at h
        exact h
      have c1 : wr.cell? ⟨g, 10, none⟩ = some (.int .u64 ((n64 (Sha64.at_ s 1) : Nat) : Int)) := by
        have h := hE.st.cell (pre.size + 1)
        rw [← Hcs.out, mid64_get pre post s 1 (by rw [Hs.out]; omega), hpre] at h
        exact h
      have c2 : wr.cell? ⟨g, 11, none⟩ = some (.int .u64 ((n64 (Sha64.at_ s 2) : Nat) : Int)) := by
        have h := hE.st.cell (pre.size + 2)
        rw [← Hcs.out, mid64_get pre post s 2 (by rw [Hs.out]; omega), hpre] at h
        exact h
      have c3 : wr.cell? ⟨g, 12, none⟩ = some (.int .u64 ((n64 (Sha64.at_ s 3) : Nat) : Int)) := by
        have h := hE.st.cell (pre.size + 3)
        rw [← Hcs.out, mid64_get pre post s 3 (by rw [Hs.out]; omega), hpre] at h
        exact h
      have c4 : wr.cell? ⟨g, 13, none⟩ = some (.int .u64 ((n64 (Sha64.at_ s 4) : Nat) : Int)) := by
        have h := hE.st.cell (pre.size + 4)
        rw [← Hcs.out, mid64_get pre post s 4 (by rw [Hs.out]; omega), hpre] at h
        exact h
      have c5 : wr.cell? ⟨g, 14, none⟩ = some (.int .u64 ((n64 (Sha64.at_ s 5) : Nat) : Int)) := by
        have h := hE.st.cell (pre.size + 5)
        rw [← Hcs.out, mid64_get pre post s 5 (by rw [Hs.out]; omega), hpre] at h
        exact h
      have c6 : wr.cell? ⟨g, 15, none⟩ = some (.int .u64 ((n64 (Sha64.at_ s 6) : Nat) : Int)) := by
        have h := hE.st.cell (pre.size + 6)
        rw [← Hcs.out, mid64_get pre post s 6 (by rw [Hs.out]; omega), hpre] at h
        exact h
      have c7 : wr.cell? ⟨g, 16, none⟩ = some (.int .u64 ((n64 (Sha64.at_ s 7) : Nat) : Int)) := by
        have h := hE.st.cell (pre.size + 7)
        rw [← Hcs.out, mid64_get pre post s 7 (by rw [Hs.out]; omega), hpre] at h
        exact h
      go_wp2
      go_quiet (fail)
      go_wp2
      replace hE := hE.next (below_drewN (Below.refl _ _) nq)
      replace own := own.later (below_drewN (Below.refl wr.heap.size wr) nq)
      clear c0 c1 c2 c3 c4 c5 c6 c7
      obtain ⟨F, HF⟩ : ∃ F, Hd (iter (Sha64.round l) 80 (Sha64.toV s) = F) := ⟨_, ⟨rfl⟩⟩
      obtain ⟨V0, HV0⟩ : ∃ V, Hd (Sha64.toV s = V) := ⟨_, ⟨rfl⟩⟩
      have own' : OwnW64 (wr.drewN nq) Bs (.slice (some ⟨gv, 0, none⟩) l.length cap) l := own
      go_loopw [9, 10, 11, 12, 13, 14, 15, 16, 98] (fun a b c d e f g' h i wr => ∃ (k : Nat) (V : Sha64.V), k ≤ 80 ∧ i = .int .i64 (k : Int) ∧ iter (Sha64.round l) k (Sha64.toV s) = V ∧ a = W64 V.a ∧ b = W64 V.b ∧ c = W64 V.c ∧ d = W64 V.d ∧ e = W64 V.e ∧ f = W64 V.f ∧ g' = W64 V.g ∧ h = W64 V.h ∧ OwnW64 wr Bs (.slice (some ⟨gv, 0, none⟩) l.length cap) l ∧ BkE64 w Bs g gk z cs wr) (fun _ _ _ _ _ _ _ _ i _ => 80 - (intOf i).toNat)
      case atStart => exact ⟨0, _, by omega, rfl, rfl, rfl, rfl, rfl, rfl, rfl, rfl, rfl, rfl, own', hE⟩
      case round =>
        clear own own' hE
        obtain ⟨k, V, hk, rfl, hV, rfl, rfl, rfl, rfl, rfl, rfl, rfl, rfl, own, hE⟩ := hrel
        have HV := hd hV
        clear hV
        obtain ⟨a, b, c, d, ee, ff, q, h⟩ := V
        simp only [W64]
        by_cases hlt : k < 80
        · have tk : (k : Int) < 80 := by omega
          go_wp2
          refine u_start (S := fun _ => BkR64 w Bs g gk z cs gv cap l) 99 (by kernel_rfl) (BkR64.next ⟨hE, own⟩ (Below.refl _ _).drew) ?_
          clear own hE
          refine u_take 0 rfl (o := _) rfl (by kernel_rfl) (by kernel_rfl) (by kernel_rfl) (.int .u64 ((n64 h : Nat) : Int)) (fun _ _ _ h => h) (g_value rfl (wanted_plain rfl) (fun f W hW => run_move (by rfl) (by simp [Act.eval]) W)) ?_
          simp only [Act.put, List.getElem_toArray, List.getElem_cons_succ, List.getElem_cons_zero, List.setIfInBounds_toArray, List.set_cons_zero, List.set_cons_succ]
          refine u_take 1 rfl (o := _) rfl (by kernel_rfl) (by kernel_rfl) (by kernel_rfl) (.int .u64 ((n64 ee : Nat) : Int)) (fun _ _ _ h => h) (g_value rfl (wanted_plain rfl) (fun f W hW => run_move (by rfl) (by simp [Act.eval]) W)) ?_
          simp only [Act.put, List.getElem_toArray, List.getElem_cons_succ, List.getElem_cons_zero, List.setIfInBounds_toArray, List.set_cons_zero, List.set_cons_succ]
          refine u_take 2 rfl (o := _) rfl (by kernel_rfl) (by kernel_rfl) (by kernel_rfl) (.pointer (some ⟨z, 0, none⟩)) (fun _ _ _ h => h) (g_value rfl (wanted_plain rfl) (fun f W hW => run_fieldAddr (by rfl) (by simp [Act.eval]) (field_kind z 0 0 (by simp)))) ?_
          simp only [Act.put, List.getElem_toArray, List.getElem_cons_succ, List.getElem_cons_zero, List.setIfInBounds_toArray, List.set_cons_zero, List.set_cons_succ]
          refine u_take 3 rfl (o := _) rfl (by kernel_rfl) (by kernel_rfl) (by kernel_rfl) (.int .i64 64) (fun _ _ _ h => h) (g_value rfl (wanted_plain rfl) (fun f W hW => run_execOp_load (by rfl) (by simp [Act.eval]) (run_load_i64 _ _ W ((BkR64.env hW).kd.cell 0)))) ?_
          simp only [Act.put, List.getElem_toArray, List.getElem_cons_succ, List.getElem_cons_zero, List.setIfInBounds_toArray, List.set_cons_zero, List.set_cons_succ]
          refine u_take 4 rfl (o := _) rfl (by kernel_rfl) (by kernel_rfl) (by kernel_rfl) (.pointer (some ⟨z, 10, none⟩)) (fun _ _ _ h => h) (g_value rfl (wanted_plain rfl) (fun f W hW => run_fieldAddr (by rfl) (by simp [Act.eval]) (field_kind z 4 10 (by simp)))) ?_
          simp only [Act.put, List.getElem_toArray, List.getElem_cons_succ, List.getElem_cons_zero, List.setIfInBounds_toArray, List.set_cons_zero, List.set_cons_succ]
          refine u_take 5 rfl (o := _) rfl (by kernel_rfl) (by kernel_rfl) (by kernel_rfl) (.agg (three 14 18 41)) (fun _ _ _ h => h) (g_value rfl (wanted_plain rfl) (fun f W hW => run_execOp_load (by rfl) (by simp [Act.eval]) (run_loadVar_cells agg3 ⟨z, 10, none⟩ [.int .i64 14, .int .i64 18, .int .i64 41] rfl ((BkR64.env hW).kd.cells_at 10 _ (fun j v hv => by match j, hv with | 0, hv => exact hv | 1, hv => exact hv | 2, hv => exact hv | j + 3, hv => simp at hv)).is))) ?_
          simp only [Act.put, List.getElem_toArray, List.getElem_cons_succ, List.getElem_cons_zero, List.setIfInBounds_toArray, List.set_cons_zero, List.set_cons_succ]
          refine u_take 6 rfl (o := _) rfl (by kernel_rfl) (by kernel_rfl) (by kernel_rfl) (.int .u64 ((n64 (Sha64.fifth ee) : Nat) : Int)) (fun _ _ _ h => h) (g_call rfl (wanted_plain rfl) 81 _ _ rfl #[.int .u64 ((n64 ee : Nat) : Int), .int .i64 64, .agg (three 14 18 41), .bool false] (by simp [Act.eval]) (enter_mixed64 _) (fun f W hW => BkR64.call hW (mixed64_any ee 14 18 41 (by omega) (by omega) (by omega) false W))) ?_
          simp only [Act.put, List.getElem_toArray, List.getElem_cons_succ, List.getElem_cons_zero, List.setIfInBounds_toArray, List.set_cons_zero, List.set_cons_succ]
          refine u_take 7 rfl (o := _) rfl (by kernel_rfl) (by kernel_rfl) (by kernel_rfl) (.int .u64 ((n64 (h + Sha64.fifth ee) : Nat) : Int)) (fun _ _ _ h => h) (g_value rfl (wanted_plain rfl) (fun f W hW => run_add64 (by rfl) (h) (Sha64.fifth ee) (by simp [Act.eval]) (by simp [Act.eval]) W)) ?_
          simp only [Act.put, List.getElem_toArray, List.getElem_cons_succ, List.getElem_cons_zero, List.setIfInBounds_toArray, List.set_cons_zero, List.set_cons_succ]
          refine u_take 8 rfl (o := _) rfl (by kernel_rfl) (by kernel_rfl) (by kernel_rfl) (.int .u64 ((n64 q : Nat) : Int)) (fun _ _ _ h => h) (g_value rfl (wanted_plain rfl) (fun f W hW => run_move (by rfl) (by simp [Act.eval]) W)) ?_
          simp only [Act.put, List.getElem_toArray, List.getElem_cons_succ, List.getElem_cons_zero, List.setIfInBounds_toArray, List.set_cons_zero, List.set_cons_succ]
          refine u_take 9 rfl (o := _) rfl (by kernel_rfl) (by kernel_rfl) (by kernel_rfl) (.int .u64 ((n64 ee : Nat) : Int)) (fun _ _ _ h => h) (g_value rfl (wanted_plain rfl) (fun f W hW => run_move (by rfl) (by simp [Act.eval]) W)) ?_
          simp only [Act.put, List.getElem_toArray, List.getElem_cons_succ, List.getElem_cons_zero, List.setIfInBounds_toArray, List.set_cons_zero, List.set_cons_succ]
          refine u_take 10 rfl (o := _) rfl (by kernel_rfl) (by kernel_rfl) (by kernel_rfl) (.int .u64 ((n64 ff : Nat) : Int)) (fun _ _ _ h => h) (g_value rfl (wanted_plain rfl) (fun f W hW => run_move (by rfl) (by simp [Act.eval]) W)) ?_
          simp only [Act.put, List.getElem_toArray, List.getElem_cons_succ, List.getElem_cons_zero, List.setIfInBounds_toArray, List.set_cons_zero, List.set_cons_succ]
          refine u_take 11 rfl (o := _) rfl (by kernel_rfl) (by kernel_rfl) (by kernel_rfl) (.int .u64 ((n64 q : Nat) : Int)) (fun _ _ _ h => h) (g_value rfl (wanted_plain rfl) (fun f W hW => run_move (by rfl) (by simp [Act.eval]) W)) ?_
          simp only [Act.put, List.getElem_toArray, List.getElem_cons_succ, List.getElem_cons_zero, List.setIfInBounds_toArray, List.set_cons_zero, List.set_cons_succ]
          refine u_take 12 rfl (o := _) rfl (by kernel_rfl) (by kernel_rfl) (by kernel_rfl) (.int .u64 ((n64 (ff ^^^ q) : Nat) : Int)) (fun _ _ _ h => h) (g_value rfl (wanted_plain rfl) (fun f W hW => run_xor64 (by rfl) (ff) (q) (by simp [Act.eval]) (by simp [Act.eval]) W)) ?_
          simp only [Act.put, List.getElem_toArray, List.getElem_cons_succ, List.getElem_cons_zero, List.setIfInBounds_toArray, List.set_cons_zero, List.set_cons_succ]
          refine u_take 13 rfl (o := _) rfl (by kernel_rfl) (by kernel_rfl) (by kernel_rfl) (.int .u64 ((n64 (ee &&& (ff ^^^ q)) : Nat) : Int)) (fun _ _ _ h => h) (g_value rfl (wanted_plain rfl) (fun f W hW => run_and64 (by rfl) (ee) (ff ^^^ q) (by simp [Act.eval]) (by simp [Act.eval]) W)) ?_
          simp only [Act.put, List.getElem_toArray, List.getElem_cons_succ, List.getElem_cons_zero, List.setIfInBounds_toArray, List.set_cons_zero, List.set_cons_succ]
          refine u_take 14 rfl (o := _) rfl (by kernel_rfl) (by kernel_rfl) (by kernel_rfl) (.int .u64 ((n64 (q ^^^ ee &&& (ff ^^^ q)) : Nat) : Int)) (fun _ _ _ h => h) (g_value rfl (wanted_plain rfl) (fun f W hW => run_xor64 (by rfl) (q) (ee &&& (ff ^^^ q)) (by simp [Act.eval]) (by simp [Act.eval]) W)) ?_
          simp only [Act.put, List.getElem_toArray, List.getElem_cons_succ, List.getElem_cons_zero, List.setIfInBounds_toArray, List.set_cons_zero, List.set_cons_succ]
          refine u_take 15 rfl (o := _) rfl (by kernel_rfl) (by kernel_rfl) (by kernel_rfl) (.int .u64 ((n64 (h + Sha64.fifth ee + (q ^^^ ee &&& (ff ^^^ q))) : Nat) : Int)) (fun _ _ _ h => h) (g_value rfl (wanted_plain rfl) (fun f W hW => run_add64 (by rfl) (h + Sha64.fifth ee) (q ^^^ ee &&& (ff ^^^ q)) (by simp [Act.eval]) (by simp [Act.eval]) W)) ?_
          simp only [Act.put, List.getElem_toArray, List.getElem_cons_succ, List.getElem_cons_zero, List.setIfInBounds_toArray, List.set_cons_zero, List.set_cons_succ]
          refine u_take 16 rfl (o := _) rfl (by kernel_rfl) (by kernel_rfl) (by kernel_rfl) (.slice (some ⟨gk, 0, none⟩) 80 80) (fun _ _ _ h => h) (g_value rfl (wanted_plain rfl) (fun f W hW => run_move (by rfl) (by simp [Act.eval]) W)) ?_
          simp only [Act.put, List.getElem_toArray, List.getElem_cons_succ, List.getElem_cons_zero, List.setIfInBounds_toArray, List.set_cons_zero, List.set_cons_succ]
          refine u_take 17 rfl (o := _) rfl (by kernel_rfl) (by kernel_rfl) (by kernel_rfl) (.int .i64 (k : Int)) (fun _ _ _ h => h) (g_value rfl (wanted_plain rfl) (fun f W hW => run_move (by rfl) (by simp [Act.eval]) W)) ?_
          simp only [Act.put, List.getElem_toArray, List.getElem_cons_succ, List.getElem_cons_zero, List.setIfInBounds_toArray, List.set_cons_zero, List.set_cons_succ]
          refine u_take 18 rfl (o := _) rfl (by kernel_rfl) (by kernel_rfl) (by kernel_rfl) (.pointer (some ⟨gk, k, none⟩)) (fun _ _ _ h => h) (g_value rfl (wanted_plain rfl) (fun f W hW => run_indexAddr (by rfl) (by simp [Act.eval]) (by simp [Act.eval]) (index_sl64 gk 80 80 k (by omega)))) ?_
          simp only [Act.put, List.getElem_toArray, List.getElem_cons_succ, List.getElem_cons_zero, List.setIfInBounds_toArray, List.set_cons_zero, List.set_cons_succ]
          refine u_take 19 rfl (o := _) rfl (by kernel_rfl) (by kernel_rfl) (by kernel_rfl) (.int .u64 ((n64 (Sha64.at_ Sha64.K k) : Nat) : Int)) (fun _ _ _ h => h) (g_value rfl (wanted_plain rfl) (fun f W hW => run_execOp_load (by rfl) (by simp [Act.eval]) (run_load_u64 _ _ W (((BkR64.env hW).tb.cell k).trans (arr64_get _ k (by rw [Sha64.K_len]; omega)))))) ?_
          simp only [Act.put, List.getElem_toArray, List.getElem_cons_succ, List.getElem_cons_zero, List.setIfInBounds_toArray, List.set_cons_zero, List.set_cons_succ]
          refine u_take 20 rfl (o := _) rfl (by kernel_rfl) (by kernel_rfl) (by kernel_rfl) (.int .u64 ((n64 (h + Sha64.fifth ee + (q ^^^ ee &&& (ff ^^^ q)) + Sha64.at_ Sha64.K k) : Nat) : Int)) (fun _ _ _ h => h) (g_value rfl (wanted_plain rfl) (fun f W hW => run_add64 (by rfl) (h + Sha64.fifth ee + (q ^^^ ee &&& (ff ^^^ q))) (Sha64.at_ Sha64.K k) (by simp [Act.eval]) (by simp [Act.eval]) W)) ?_
          simp only [Act.put, List.getElem_toArray, List.getElem_cons_succ, List.getElem_cons_zero, List.setIfInBounds_toArray, List.set_cons_zero, List.set_cons_succ]
          refine u_take 21 rfl (o := _) rfl (by kernel_rfl) (by kernel_rfl) (by kernel_rfl) (.slice (some ⟨gv, 0, none⟩) l.length cap) (fun _ _ _ h => h) (g_value rfl (wanted_plain rfl) (fun f W hW => run_move (by rfl) (by simp [Act.eval]) W)) ?_
          simp only [Act.put, List.getElem_toArray, List.getElem_cons_succ, List.getElem_cons_zero, List.setIfInBounds_toArray, List.set_cons_zero, List.set_cons_succ]
          refine u_take 22 rfl (o := _) rfl (by kernel_rfl) (by kernel_rfl) (by kernel_rfl) (.int .i64 (k : Int)) (fun _ _ _ h => h) (g_value rfl (wanted_plain rfl) (fun f W hW => run_move (by rfl) (by simp [Act.eval]) W)) ?_
          simp only [Act.put, List.getElem_toArray, List.getElem_cons_succ, List.getElem_cons_zero, List.setIfInBounds_toArray, List.set_cons_zero, List.set_cons_succ]
          refine u_take 23 rfl (o := _) rfl (by kernel_rfl) (by kernel_rfl) (by kernel_rfl) (.pointer (some ⟨gv, k, none⟩)) (fun _ _ _ h => h) (g_value rfl (wanted_plain rfl) (fun f W hW => run_indexAddr (by rfl) (by simp [Act.eval]) (by simp [Act.eval]) (index_sl64 gv l.length cap k (by have := Hln.out; omega)))) ?_
          simp only [Act.put, List.getElem_toArray, List.getElem_cons_succ, List.getElem_cons_zero, List.setIfInBounds_toArray, List.set_cons_zero, List.set_cons_succ]
          refine u_take 24 rfl (o := _) rfl (by kernel_rfl) (by kernel_rfl) (by kernel_rfl) (.int .u64 ((n64 (Sha64.at_ l k) : Nat) : Int)) (fun _ _ _ h => h) (g_value rfl (wanted_plain rfl) (fun f W hW => run_execOp_load (by rfl) (by simp [Act.eval]) (run_load_u64 _ _ W ((BkR64.own hW).cell k (by have := Hln.out; omega))))) ?_
          simp only [Act.put, List.getElem_toArray, List.getElem_cons_succ, List.getElem_cons_zero, List.setIfInBounds_toArray, List.set_cons_zero, List.set_cons_succ]
          refine u_take 25 rfl (o := _) rfl (by kernel_rfl) (by kernel_rfl) (by kernel_rfl) (.int .u64 ((n64 (h + Sha64.fifth ee + (q ^^^ ee &&& (ff ^^^ q)) + Sha64.at_ Sha64.K k + Sha64.at_ l k) : Nat) : Int)) (fun _ _ _ h => h) (g_value rfl (wanted_plain rfl) (fun f W hW => run_add64 (by rfl) (h + Sha64.fifth ee + (q ^^^ ee &&& (ff ^^^ q)) + Sha64.at_ Sha64.K k) (Sha64.at_ l k) (by simp [Act.eval]) (by simp [Act.eval]) W)) ?_
          simp only [Act.put, List.getElem_toArray, List.getElem_cons_succ, List.getElem_cons_zero, List.setIfInBounds_toArray, List.set_cons_zero, List.set_cons_succ]
          refine u_take 26 rfl (o := _) rfl (by kernel_rfl) (by kernel_rfl) (by kernel_rfl) (.int .u64 ((n64 (h + Sha64.fifth ee + (q ^^^ ee &&& (ff ^^^ q)) + Sha64.at_ Sha64.K k + Sha64.at_ l k) : Nat) : Int)) (fun _ _ _ h => h) (g_value rfl (wanted_plain rfl) (fun f W hW => run_assign (by rfl) (by simp [Act.eval]) W)) ?_
          simp only [Act.put, List.getElem_toArray, List.getElem_cons_succ, List.getElem_cons_zero, List.setIfInBounds_toArray, List.set_cons_zero, List.set_cons_succ]
          refine u_done (by kernel_rfl) (fun W5 hW5 => ?_) _
          have hW5 : BkR64 w Bs g gk z cs gv cap l W5 := hW5
          have hfirst : Cells W5 ⟨z, 7, none⟩ [.int .i64 28, .int .i64 34, .int .i64 39] := hW5.env.kd.cells_at 7 _ (fun j v hv => by match j, hv with | 0, hv => exact hv | 1, hv => exact hv | 2, hv => exact hv | j + 3, hv => simp at hv)
          have hbits : W5.cell? ⟨z, 0, none⟩ = some (.int .i64 64) := hW5.env.kd.cell 0
          go_wp2_with (first | (go_at_call 81; refine (mixed64_any a 28 34 39 (by omega) (by omega) (by omega) false _).mono ?_; rintro e5 w5 ⟨rfl, hB5⟩) | (refine wpl_load rfl _ _ rfl ⟨z, 7, none⟩ rfl 3 agg3 [.int .i64 28, .int .i64 34, .int .i64 39] rfl hfirst ?_))
          exact ⟨⟨k + 1, Sha64.round l k ⟨a, b, c, d, ee, ff, q, h⟩, by omega, by congr 1 <;> omega, by rw [iter, HV.out], rfl, rfl, rfl, rfl, rfl, rfl, rfl, rfl, hW5.own.later hB5, hW5.env.next hB5⟩, by simp [intOf]; omega⟩
        · have ek : k = 80 := by omega
          subst ek
          have tk : ¬ ((80 : Nat) : Int) < 80 := by omega
          have Hblock := hd (show Sha64.block s l0 = iter (Sha64.add8 [a, b, c, d, ee, ff, q, h]) 8 s by rw [Sha64.block, Hll.out, HV.out]; rfl)
          have hst3 := hE.st
          have hk3 := hE.kept
          clear own hE
          obtain ⟨u, Hu⟩ : ∃ u, Hd ([a, b, c, d, ee, ff, q, h] = u) := ⟨_, ⟨rfl⟩⟩
          have Hul := hd (show u.length = 8 by rw [← Hu.out]; rfl)
          rw [Hu.out] at Hblock
          have Hix := hd (fun (k : Nat) (hk : k < 8) (W : World) => by
            have hh := run_index_arr64 (w := W) u Hul.out k hk
            rw [← Hu.out] at hh
            exact (show (Instr.index 68 (.agg #[.int .u64 ((n64 a : Nat) : Int), .int .u64 ((n64 b : Nat) : Int), .int .u64 ((n64 c : Nat) : Int), .int .u64 ((n64 d : Nat) : Int), .int .u64 ((n64 ee : Nat) : Int), .int .u64 ((n64 ff : Nat) : Int), .int .u64 ((n64 q : Nat) : Int), .int .u64 ((n64 h : Nat) : Int)]) (.int .i64 (k : Int))).run Tryz.prog W = .ok (.int .u64 ((n64 (Sha64.at_ [a, b, c, d, ee, ff, q, h] k) : Nat) : Int)) W from hh))
          rw [← Hcs.out] at hst3
          go_wp2
          go_loopw [165] (fun i wr => ∃ k : Nat, k ≤ 8 ∧ i = .int .i64 (k : Int) ∧ Blk wr g 70 (pre ++ arr64 (iter (Sha64.add8 u) k s) ++ post) ∧ Kept Bs g w wr) (fun i _ => 8 - (intOf i).toNat)
          case atStart => exact ⟨0, by omega, rfl, hst3, hk3⟩
          case round =>
            clear hst3 hk3
            obtain ⟨k, hk, rfl, hb, hK⟩ := hrel
            obtain ⟨sk, Hsk⟩ : ∃ y, Hd (iter (Sha64.add8 u) k s = y) := ⟨_, ⟨rfl⟩⟩
            rw [Hsk.out] at hb
            have Hskl := hd (show sk.length = 8 by rw [← Hsk.out, Sha64.add8_len, Hs.out])
            by_cases hlt : k < 8
            · have tk2 : (k : Int) < 8 := by omega
              have ck : wr.cell? ⟨g, 9 + k, none⟩ = some (.int .u64 ((n64 (Sha64.at_ sk k) : Nat) : Int)) := by
                have h := hb.cell (pre.size + k)
                rw [mid64_get pre post sk k (by rw [Hskl.out]; omega), hpre] at h
                exact h
              have fk := hb.frozen (9 + k)
              have hix := Hix.out k hlt
              rw [Hu.out] at hix
              have Hnx := hd (show iter (Sha64.add8 u) (k + 1) s = sk.set k (Sha64.at_ sk k + Sha64.at_ u k) by rw [iter, Hsk.out]; rfl)
              go_wp2
              go_region
              go_wp2
              clear hix
              go_roundw
              case rel =>
                refine ⟨k + 1, by omega, by go_num, ?_, (hK.trans (grown_kept (grew_setCell (World.grownBy.refl wr (some g)) (9 + k) _) (fun k hk => .inr (by injection hk with hk; exact hk.symm)) (Nat.le_trans hB hK.size))).trans (below_kept (Below.refl Bs _).drew (Nat.le_refl _))⟩
                have h := hb.set_ (9 + k) (W64 (Sha64.at_ sk k + Sha64.at_ u k))
                rw [← hpre, mid64_set pre post sk k _ (by rw [Hskl.out]; omega), hpre] at h
                rw [Hnx.out]
                exact h.drew
              case measure => simp [intOf]; omega
            · have ek : k = 8 := by omega
              subst ek
              have tk2 : ¬ ((8 : Nat) : Int) < 8 := by omega
              go_wp2
              go_end0
              refine ⟨rfl, ?_, hK⟩
              rw [Hblock.out, Hsk.out]
              first | exact hb | (rw [← Array.append_assoc]; exact hb)
end Go.Proofs.YtbcboldepghgpaaGreatDoor
