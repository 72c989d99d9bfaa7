/-
  A suite's keys out of a secret: the program's Keys, the reference's.
-/
import Derived.Test.YtbcboldepghgpaaGreatDoorSteA
import Derived.Test.YtbcboldepghgpaaGreatDoorSuiteA
import Derived.Test.YtbcboldepghgpaaGreatDoorHeldP
import Derived.Test.YtbcboldepghgpaaGreatDoorFill
import Derived.Deep.DeepCutAuto
set_option linter.unusedVariables false
set_option linter.unusedSimpArgs false
set_option maxRecDepth 100000
namespace Go.Proofs.YtbcboldepghgpaaGreatDoor
open Go.RowKit
theorem zero12n : (Tryz.prog.info? 29).bind (·.zero) = some (.agg (arr (List.replicate 12 0))) := by kernel_rfl
theorem built12 : Tryz.prog.built 29 [] = some (arr (List.replicate 12 0)) := by kernel_rfl
theorem run_toArr {P : Program} {w : World} {o : Oper} {ρ : Operand → Value} {arr : TypeId} {x : Operand} (ho : o.op = .sliceToArrayPointer arr x) (b : Option Addr) (len cap : Nat) (hx : ρ x = .slice b len cap)
    {n : Nat} {e : TypeId} (hu : P.underlying arr = some (.array n e)) (hle : n ≤ len) : (execOp ρ o).run P w = .ok (.value (.pointer b)) w := by
  unfold execOp
  simp only [ho, hx]
  simp [run_arrayAt hu b len cap hle]
theorem op_skip {P : Program} {w w2 : World} {Q : Exit → Act → World → Prop} {ops : Array Oper} {a : Act} {o : Oper} {i : Nat} {K : Act → World → Prop} (hi : ops[i]? = some o) (hw : Region.wanted o (yielded ops a.tmps) = true) (hrun : (execOp a.eval o).run P w = .ok .skip w2) (h : K (a.put o.dst undef) w2) : wpOp P ops Q i K a w := by
  unfold wpOp
  simp only [hi]
  rw [if_pos hw]
  left
  unfold Oper.wp
  rw [hrun]
  exact h
theorem run_store_row {P : Program} {w : World} {o : Oper} {ρ : Operand → Value} {ty : TypeId} {x y : Operand} (ho : o.op = .store ty x y) (g : Nat) (l : List UInt8) (hx : ρ x = .pointer (some ⟨g, 0, none⟩)) (hy : ρ y = .agg (arr l))
    (t : TypeId) (cs : Array Value) (hb : Blk w g t cs) (n : Nat) (hi : (P.info? ty).map (·.size) = some n) (hl : l.length = n) (hn : cs.size = n) : (execOp ρ o).run P w = .ok .skip (w.setRow g (arr l)) := by
  have h := run_storeVar_at (P := P) hb 0 (l.map U8) (ty := ty) (by rw [hi, List.length_map, hl]) (by rw [List.length_map]; omega) (by simp [Value.oneCell'])
  rw [splice_all cs _ (by rw [List.length_map]; omega)] at h
  unfold execOp
  simp only [ho, hx, hy, Instr.storeAt, Instr.sureAddr, Sem.run_bind, Sem.run_pure, Result.andThen_ok]
  have e : (Value.agg (arr l)) = .agg (l.map U8).toArray := rfl
  rw [e, h]; rfl
/-- Two results with an array between them. -/
theorem ret_keys {P : Program} {w : World} {a : Act} {fn : Func} {p q r : Tmp} {ty : TypeId} {R : Ending → World → Prop} (h : fn.results = #[.tmp p, .cell q ty, .tmp r]) (g : Nat) (hq : a.tmps.getD q undef = .pointer (some ⟨g, 0, none⟩)) (v u : Value) (hp : a.tmps.getD p undef = v) (hr : a.tmps.getD r undef = u) {n : Nat} (ht : AggT P ty n) (l : List UInt8) (hl : l.length = n)
    (hc : Cells w ⟨g, 0, none⟩ (l.map U8)) (hd : a.defers = []) (hR : R (.returned (.tuple #[v, .agg (arr l), u])) w) : bodyPost P fn R .ret a w := by
  refine bodyPost_ret (v := .tuple #[v, .agg (arr l), u]) ?_ hd hR
  have hp' : a.tmps[p]?.getD undef = v := by simpa using hp
  have hq' : a.tmps[q]?.getD undef = .pointer (some ⟨g, 0, none⟩) := by simpa using hq
  have hr' : a.tmps[r]?.getD undef = u := by simpa using hr
  have := run_loadVar_cells (P := P) (w := w) ht ⟨g, 0, none⟩ (l.map U8) (by rw [List.length_map, hl]) hc.is
  simp [results, h, hp', hq', hr', asAddr, this, arr]
theorem reads_cells {w : World} {B n : Nat} {ad : Addr} {l : List UInt8} (h : ReadsB w B (some ad) n l) : Cells w ad (l.map U8) :=
  ⟨fun j v hv => by
    have h0 : 0 < n := by
      have hl := h.len
      rcases Nat.eq_zero_or_pos n with e | e
      · rw [e] at hl; rw [List.length_eq_zero_iff.1 hl] at hv; cases hv
      · exact e
    obtain ⟨a2, e, _, hc⟩ := h.is.2 h0
    injection e with e
    subst e
    exact hc j v hv⟩
theorem reads_moved {w w' : World} {n z : Nat} {ad : Addr} {l : List UInt8} (h : ReadsB w w.heap.size (some ad) n l) (hg : w.grownBy w' (some z)) (hz : z ≠ ad.block) : ReadsB w' w'.heap.size (some ad) n l := by
  have h3 := reads_away h hg (Nat.le_refl _) (fun _ a e e2 => by injection e with e; injection e2 with e2; subst e; exact hz e2)
  exact ⟨h3.len, h3.is.more hg.size⟩
theorem expand_iv_len (h : Int) (hh : h = 1 ∨ h = 2 ∨ h = 3) (sec : List UInt8) : (Sched.expand h sec Sched.lIv [] 12).length = 12 := by
  have hn : ¬ Sched.refused h 12 Sched.lIv [] := by
    have := Mac.size_pos hh
    unfold Sched.refused Sched.lIv
    simp only [List.length_nil, List.length_cons]
    rcases hh with rfl | rfl | rfl <;> simp [Sha.size]
  unfold Sched.expand
  rw [if_neg hn]
  exact Mac.expand_len h _ _ 12 (by rcases hh with rfl | rfl | rfl <;> decide)
theorem err_key (h : Int) (hh : h = 1 ∨ h = 2 ∨ h = 3) (lab : List UInt8) (n : Int) (hl : lab.length ≤ 249) (h0 : 0 ≤ n) (hn : n ≤ 255) : Sched.err h lab [] n = 0 := by
  have hr : ¬ Sched.refused h n lab [] := by
    unfold Sched.refused
    simp only [List.length_nil]
    rcases hh with rfl | rfl | rfl <;> simp [Sha.size] <;> omega
  unfold Sched.err
  exact if_neg hr
theorem expand_len_le (h : Int) (sec lab ctx : List UInt8) (n : Nat) (hn : n ≤ 255) : (Sched.expand h sec lab ctx (n : Int)).length ≤ 255 := by
  unfold Sched.expand
  split
  · simp
  · rename_i hr
    have hr' : ¬ Sched.refused h (n : Int) lab ctx := hr
    unfold Sched.refused at hr'
    rw [Mac.expand_len h _ _ _ (by omega)]
    omega

set_option maxHeartbeats 4000000 in
set_option maxRecDepth 100000 in
theorem keys_128 (A : Option Addr) (m c : Nat) (sec : List UInt8) (w : World) (hr : ReadsB w w.heap.size A m sec) (hm : m ≤ 140737488355000) (htb : Tabs w) :
    Calls Tryz.prog 11 #[.int .u16 4865, .slice A m c] w fun e w' => ∃ v, e = .returned (.tuple #[v, .agg (arr (Sched.expand 1 sec Sched.lIv [] 12)), .int .i64 0]) ∧ OwnB w' w.heap.size v (Sched.expand 1 sec Sched.lKey [] 16) ∧ Below w.heap.size w w' := by
  obtain ⟨IV, nIV, HI, HIl'⟩ := named (Sched.expand 1 sec Sched.lIv [] 12)
  have HIl := hd (show IV.length = 12 by rw [← HI.out]; exact expand_iv_len 1 (.inl rfl) sec)
  obtain ⟨K, nK, HK, HKl⟩ := named (Sched.expand 1 sec Sched.lKey [] 16)
  have HE1 := hd (err_key 1 (.inl rfl) Sched.lKey 16 (by decide) (by decide) (by decide))
  have HE2 := hd (err_key 1 (.inl rfl) Sched.lIv 12 (by decide) (by decide) (by decide))
  rw [HI.out, HK.out]
  have bz : Blk (w.alloc (.cells (arr (List.replicate 12 0)) 29)) w.heap.size 29 (arr (List.replicate 12 0)) := Blk.nu rfl
  have hB0 : Below w.heap.size w (w.alloc (.cells (arr (List.replicate 12 0)) 29)) := (Below.refl _ _).alloc (Nat.le_refl _) _
  have Hz := hd (show w.heap.size < (w.alloc (.cells (arr (List.replicate 12 0)) 29)).heap.size by simp)
  go_enter Tryz.func11, Tryz.ntmps11
  go_upto_region 6 with (first | (go_at_call 30; refine (sexpand_any 1 A m c sec Sched.lIv none 0 0 [] 12 w3 ⟨hr.len, (hr.is.below hB3).more hB3.size⟩ hm ⟨rfl, Reads.none_⟩ (htb.below hB3)).mono ?_; rintro e w4 ⟨v4, rfl, own4, hB34⟩; rw [HI.out] at own4; rw [HE2.out]; obtain ⟨Ai', ci, ei⟩ := own4.slice; rw [HIl.out] at ei; subst ei; have hB4 := hB3.trans (hB34.mono hB3.size); have bz4 := bz3.below hB34 hz3) | (go_at_call 30; refine (sexpand_any 1 A m c sec Sched.lKey none 0 0 [] 16 w2 ⟨hr.len, (hr.is.below hB2).more hB2.size⟩ hm ⟨rfl, Reads.none_⟩ (htb.below hB2)).mono ?_; rintro e w3 ⟨v3, rfl, own3, hB23⟩; rw [HK.out] at own3; rw [HE1.out]; obtain ⟨Ak, ck, ek⟩ := own3.slice; rw [HKl.out] at ek; subst ek; have hB3 := hB2.trans (hB23.mono hB2.size); have bz3 := bz2.below hB23 hz2; have hz3 := Nat.lt_of_lt_of_le hz2 hB23.size) | (go_at_call 31; refine (KeyLen_128 w1).mono ?_; rintro e w2 ⟨rfl, hB12⟩; have hB2 := hB1.trans (hB12.mono hB1.size); have bz2 := bz1.below hB12 hz1; have hz2 := Nat.lt_of_lt_of_le hz1 hB12.size) | (go_at_call 29; refine (Hash_128 _).mono ?_; rintro e w1 ⟨rfl, hB01⟩; have hB1 := hB0.trans (hB01.mono hB0.size); have bz1 := bz.below hB01 Hz.out; have hz1 := Nat.lt_of_lt_of_le Hz.out hB01.size; clear bz hB0) | (refine wpl_alloc rfl 29 rfl _ zero12n ?_))
  have rI0 : ReadsB w4 w4.heap.size Ai' 12 IV := ⟨HIl.out, own4.reads_any.2.is⟩
  have ownK4 : OwnB w4 w.heap.size (.slice Ak nK ck) K := (own3.low hB2.size).later hB34
  obtain ⟨gi, capi, ef, hgi, _⟩ := own4.form (by rw [HIl.out]; omega)
  have hAi' : Ai' = some ⟨gi, 0, none⟩ := by injection ef
  clear ef
  subst hAi'
  obtain ⟨Ai, HAi⟩ : ∃ x : Addr, Hd (⟨gi, 0, none⟩ = x) := ⟨_, ⟨rfl⟩⟩
  have hAi : w.heap.size ≠ Ai.block := by rw [← HAi.out]; show w.heap.size ≠ gi; omega
  rw [HAi.out] at rI0 ⊢
  have rI := rI0
  clear rI0 own4 own3 bz3 bz2 bz1 hgi
  refine v_start PR ((fun W => Below w.heap.size w W ∧ ReadsB W W.heap.size (some Ai) 12 IV ∧ OwnB W w.heap.size (.slice Ak nK ck) K), (fun W => Blk W w.heap.size 29 (arr (List.replicate 12 0)))) (by kernel_rfl) (show PW _ w4.drew from ⟨⟨hB4.drew, rI.drew, ownK4.drew⟩, bz4.drew⟩) ?_
  refine p_take 0 (o := _) rfl (by kernel_rfl) (by kernel_rfl) (by kernel_rfl) (wanted_plain rfl) (.slice Ak nK ck) (fun _ _ _ h => h) (fun W hW => run_move (by rfl) (by simp [Act.eval]) W) ?_
  simp only [Act.put, List.getElem_toArray, List.getElem_cons_succ, List.getElem_cons_zero, List.setIfInBounds_toArray, List.set_cons_zero, List.set_cons_succ]
  refine p_take 1 (o := _) rfl (by kernel_rfl) (by kernel_rfl) (by kernel_rfl) (wanted_plain rfl) (.slice (some Ai) 12 ci) (fun _ _ _ h => h) (fun W hW => run_move (by rfl) (by simp [Act.eval]) W) ?_
  simp only [Act.put, List.getElem_toArray, List.getElem_cons_succ, List.getElem_cons_zero, List.setIfInBounds_toArray, List.set_cons_zero, List.set_cons_succ]
  refine p_take 2 (o := _) rfl (by kernel_rfl) (by kernel_rfl) (by kernel_rfl) (wanted_plain rfl) (.pointer (some Ai)) (fun _ _ _ h => h) (fun W hW => run_toArr (by rfl) (some Ai) 12 ci (by simp [Act.eval]) Tryz.underlying29 (by omega)) ?_
  simp only [Act.put, List.getElem_toArray, List.getElem_cons_succ, List.getElem_cons_zero, List.setIfInBounds_toArray, List.set_cons_zero, List.set_cons_succ]
  refine p_take 3 (o := _) rfl (by kernel_rfl) (by kernel_rfl) (by kernel_rfl) (wanted_plain rfl) (.agg (arr IV)) (fun _ _ _ h => h) (fun W hW => run_load_arr (by rfl) (by simp [Act.eval]) ty12 IV HIl.out (reads_cells hW.2.1)) ?_
  simp only [Act.put, List.getElem_toArray, List.getElem_cons_succ, List.getElem_cons_zero, List.setIfInBounds_toArray, List.set_cons_zero, List.set_cons_succ]
  refine p_take 4 (o := _) rfl (by kernel_rfl) (by kernel_rfl) (by kernel_rfl) (wanted_plain rfl) (.slice Ak nK ck) (fun _ _ _ h => h) (fun W hW => run_assign (by rfl) (by simp [Act.eval]) W) ?_
  simp only [Act.put, List.getElem_toArray, List.getElem_cons_succ, List.getElem_cons_zero, List.setIfInBounds_toArray, List.set_cons_zero, List.set_cons_succ]
  refine p_one 5 (by kernel_rfl) (fun W hW hX => ?_)
  refine op_skip (o := _) rfl (wanted_plain rfl) (w2 := W.setRow w.heap.size (arr IV)) (run_store_row (by rfl) w.heap.size IV (by simp [Act.eval]) (by simp [Act.eval]) 29 _ hX 12 (by kernel_rfl) HIl.out (by rw [arr_size, List.length_replicate])) ?_
  have hg := grew_setRow (World.grownBy.refl W (some w.heap.size)) (arr IV)
  have hne := own_blk_ne hW.2.2.own hX (by decide)
  refine Next.mk (fun W => Below w.heap.size w W ∧ ReadsB W W.heap.size (some Ai) 12 IV ∧ OwnB W w.heap.size (.slice Ak nK ck) K) (fun W => Blk W w.heap.size 29 (arr IV)) (fun _ h => h) ⟨below_setRow hW.1 (Nat.le_refl _) _, ?_, hW.2.2.moved hg hne⟩ (hX.setRow _) ?_
  · exact reads_moved hW.2.1 hg hAi
  simp only [Act.put, List.getElem_toArray, List.getElem_cons_succ, List.getElem_cons_zero, List.setIfInBounds_toArray, List.set_cons_zero, List.set_cons_succ]
  refine p_take 6 (o := _) rfl (by kernel_rfl) (by kernel_rfl) (by kernel_rfl) (wanted_plain rfl) (.int .i64 0) (fun _ _ _ h => h) (fun W hW => run_assign (by rfl) (by simp [Act.eval]) W) ?_
  simp only [Act.put, List.getElem_toArray, List.getElem_cons_succ, List.getElem_cons_zero, List.setIfInBounds_toArray, List.set_cons_zero, List.set_cons_succ]
  refine (show ∀ n, wpAnyV _ _ _ _ _ _ n _ _ _ from fun n => v_done (by kernel_rfl) (fun W hW => ?_) n) _
  go_wp2
  exact ret_keys rfl w.heap.size rfl _ _ rfl rfl ty12 IV HIl.out (Blk.cells_arr hW.2) rfl ⟨_, rfl, hW.1.2.2, hW.1.1⟩
set_option maxHeartbeats 4000000 in
set_option maxRecDepth 100000 in
theorem keys_256 (A : Option Addr) (m c : Nat) (sec : List UInt8) (w : World) (hr : ReadsB w w.heap.size A m sec) (hm : m ≤ 140737488355000) (htb : Tabs w) :
    Calls Tryz.prog 11 #[.int .u16 4866, .slice A m c] w fun e w' => ∃ v, e = .returned (.tuple #[v, .agg (arr (Sched.expand 2 sec Sched.lIv [] 12)), .int .i64 0]) ∧ OwnB w' w.heap.size v (Sched.expand 2 sec Sched.lKey [] 32) ∧ Below w.heap.size w w' := by
  obtain ⟨IV, nIV, HI, HIl'⟩ := named (Sched.expand 2 sec Sched.lIv [] 12)
  have HIl := hd (show IV.length = 12 by rw [← HI.out]; exact expand_iv_len 2 (.inr (.inl rfl)) sec)
  obtain ⟨K, nK, HK, HKl⟩ := named (Sched.expand 2 sec Sched.lKey [] 32)
  have HE1 := hd (err_key 2 (.inr (.inl rfl)) Sched.lKey 32 (by decide) (by decide) (by decide))
  have HE2 := hd (err_key 2 (.inr (.inl rfl)) Sched.lIv 12 (by decide) (by decide) (by decide))
  rw [HI.out, HK.out]
  have bz : Blk (w.alloc (.cells (arr (List.replicate 12 0)) 29)) w.heap.size 29 (arr (List.replicate 12 0)) := Blk.nu rfl
  have hB0 : Below w.heap.size w (w.alloc (.cells (arr (List.replicate 12 0)) 29)) := (Below.refl _ _).alloc (Nat.le_refl _) _
  have Hz := hd (show w.heap.size < (w.alloc (.cells (arr (List.replicate 12 0)) 29)).heap.size by simp)
  go_enter Tryz.func11, Tryz.ntmps11
  go_upto_region 6 with (first | (go_at_call 30; refine (sexpand_any 2 A m c sec Sched.lIv none 0 0 [] 12 w3 ⟨hr.len, (hr.is.below hB3).more hB3.size⟩ hm ⟨rfl, Reads.none_⟩ (htb.below hB3)).mono ?_; rintro e w4 ⟨v4, rfl, own4, hB34⟩; rw [HI.out] at own4; rw [HE2.out]; obtain ⟨Ai', ci, ei⟩ := own4.slice; rw [HIl.out] at ei; subst ei; have hB4 := hB3.trans (hB34.mono hB3.size); have bz4 := bz3.below hB34 hz3) | (go_at_call 30; refine (sexpand_any 2 A m c sec Sched.lKey none 0 0 [] 32 w2 ⟨hr.len, (hr.is.below hB2).more hB2.size⟩ hm ⟨rfl, Reads.none_⟩ (htb.below hB2)).mono ?_; rintro e w3 ⟨v3, rfl, own3, hB23⟩; rw [HK.out] at own3; rw [HE1.out]; obtain ⟨Ak, ck, ek⟩ := own3.slice; rw [HKl.out] at ek; subst ek; have hB3 := hB2.trans (hB23.mono hB2.size); have bz3 := bz2.below hB23 hz2; have hz3 := Nat.lt_of_lt_of_le hz2 hB23.size) | (go_at_call 31; refine (KeyLen_256 w1).mono ?_; rintro e w2 ⟨rfl, hB12⟩; have hB2 := hB1.trans (hB12.mono hB1.size); have bz2 := bz1.below hB12 hz1; have hz2 := Nat.lt_of_lt_of_le hz1 hB12.size) | (go_at_call 29; refine (Hash_256 _).mono ?_; rintro e w1 ⟨rfl, hB01⟩; have hB1 := hB0.trans (hB01.mono hB0.size); have bz1 := bz.below hB01 Hz.out; have hz1 := Nat.lt_of_lt_of_le Hz.out hB01.size; clear bz hB0) | (refine wpl_alloc rfl 29 rfl _ zero12n ?_))
  have rI0 : ReadsB w4 w4.heap.size Ai' 12 IV := ⟨HIl.out, own4.reads_any.2.is⟩
  have ownK4 : OwnB w4 w.heap.size (.slice Ak nK ck) K := (own3.low hB2.size).later hB34
  obtain ⟨gi, capi, ef, hgi, _⟩ := own4.form (by rw [HIl.out]; omega)
  have hAi' : Ai' = some ⟨gi, 0, none⟩ := by injection ef
  clear ef
  subst hAi'
  obtain ⟨Ai, HAi⟩ : ∃ x : Addr, Hd (⟨gi, 0, none⟩ = x) := ⟨_, ⟨rfl⟩⟩
  have hAi : w.heap.size ≠ Ai.block := by rw [← HAi.out]; show w.heap.size ≠ gi; omega
  rw [HAi.out] at rI0 ⊢
  have rI := rI0
  clear rI0 own4 own3 bz3 bz2 bz1 hgi
  refine v_start PR ((fun W => Below w.heap.size w W ∧ ReadsB W W.heap.size (some Ai) 12 IV ∧ OwnB W w.heap.size (.slice Ak nK ck) K), (fun W => Blk W w.heap.size 29 (arr (List.replicate 12 0)))) (by kernel_rfl) (show PW _ w4.drew from ⟨⟨hB4.drew, rI.drew, ownK4.drew⟩, bz4.drew⟩) ?_
  refine p_take 0 (o := _) rfl (by kernel_rfl) (by kernel_rfl) (by kernel_rfl) (wanted_plain rfl) (.slice Ak nK ck) (fun _ _ _ h => h) (fun W hW => run_move (by rfl) (by simp [Act.eval]) W) ?_
  simp only [Act.put, List.getElem_toArray, List.getElem_cons_succ, List.getElem_cons_zero, List.setIfInBounds_toArray, List.set_cons_zero, List.set_cons_succ]
  refine p_take 1 (o := _) rfl (by kernel_rfl) (by kernel_rfl) (by kernel_rfl) (wanted_plain rfl) (.slice (some Ai) 12 ci) (fun _ _ _ h => h) (fun W hW => run_move (by rfl) (by simp [Act.eval]) W) ?_
  simp only [Act.put, List.getElem_toArray, List.getElem_cons_succ, List.getElem_cons_zero, List.setIfInBounds_toArray, List.set_cons_zero, List.set_cons_succ]
  refine p_take 2 (o := _) rfl (by kernel_rfl) (by kernel_rfl) (by kernel_rfl) (wanted_plain rfl) (.pointer (some Ai)) (fun _ _ _ h => h) (fun W hW => run_toArr (by rfl) (some Ai) 12 ci (by simp [Act.eval]) Tryz.underlying29 (by omega)) ?_
  simp only [Act.put, List.getElem_toArray, List.getElem_cons_succ, List.getElem_cons_zero, List.setIfInBounds_toArray, List.set_cons_zero, List.set_cons_succ]
  refine p_take 3 (o := _) rfl (by kernel_rfl) (by kernel_rfl) (by kernel_rfl) (wanted_plain rfl) (.agg (arr IV)) (fun _ _ _ h => h) (fun W hW => run_load_arr (by rfl) (by simp [Act.eval]) ty12 IV HIl.out (reads_cells hW.2.1)) ?_
  simp only [Act.put, List.getElem_toArray, List.getElem_cons_succ, List.getElem_cons_zero, List.setIfInBounds_toArray, List.set_cons_zero, List.set_cons_succ]
  refine p_take 4 (o := _) rfl (by kernel_rfl) (by kernel_rfl) (by kernel_rfl) (wanted_plain rfl) (.slice Ak nK ck) (fun _ _ _ h => h) (fun W hW => run_assign (by rfl) (by simp [Act.eval]) W) ?_
  simp only [Act.put, List.getElem_toArray, List.getElem_cons_succ, List.getElem_cons_zero, List.setIfInBounds_toArray, List.set_cons_zero, List.set_cons_succ]
  refine p_one 5 (by kernel_rfl) (fun W hW hX => ?_)
  refine op_skip (o := _) rfl (wanted_plain rfl) (w2 := W.setRow w.heap.size (arr IV)) (run_store_row (by rfl) w.heap.size IV (by simp [Act.eval]) (by simp [Act.eval]) 29 _ hX 12 (by kernel_rfl) HIl.out (by rw [arr_size, List.length_replicate])) ?_
  have hg := grew_setRow (World.grownBy.refl W (some w.heap.size)) (arr IV)
  have hne := own_blk_ne hW.2.2.own hX (by decide)
  refine Next.mk (fun W => Below w.heap.size w W ∧ ReadsB W W.heap.size (some Ai) 12 IV ∧ OwnB W w.heap.size (.slice Ak nK ck) K) (fun W => Blk W w.heap.size 29 (arr IV)) (fun _ h => h) ⟨below_setRow hW.1 (Nat.le_refl _) _, ?_, hW.2.2.moved hg hne⟩ (hX.setRow _) ?_
  · exact reads_moved hW.2.1 hg hAi
  simp only [Act.put, List.getElem_toArray, List.getElem_cons_succ, List.getElem_cons_zero, List.setIfInBounds_toArray, List.set_cons_zero, List.set_cons_succ]
  refine p_take 6 (o := _) rfl (by kernel_rfl) (by kernel_rfl) (by kernel_rfl) (wanted_plain rfl) (.int .i64 0) (fun _ _ _ h => h) (fun W hW => run_assign (by rfl) (by simp [Act.eval]) W) ?_
  simp only [Act.put, List.getElem_toArray, List.getElem_cons_succ, List.getElem_cons_zero, List.setIfInBounds_toArray, List.set_cons_zero, List.set_cons_succ]
  refine (show ∀ n, wpAnyV _ _ _ _ _ _ n _ _ _ from fun n => v_done (by kernel_rfl) (fun W hW => ?_) n) _
  go_wp2
  exact ret_keys rfl w.heap.size rfl _ _ rfl rfl ty12 IV HIl.out (Blk.cells_arr hW.2) rfl ⟨_, rfl, hW.1.2.2, hW.1.1⟩
set_option maxHeartbeats 4000000 in
set_option maxRecDepth 100000 in
theorem keys_cha (A : Option Addr) (m c : Nat) (sec : List UInt8) (w : World) (hr : ReadsB w w.heap.size A m sec) (hm : m ≤ 140737488355000) (htb : Tabs w) :
    Calls Tryz.prog 11 #[.int .u16 4867, .slice A m c] w fun e w' => ∃ v, e = .returned (.tuple #[v, .agg (arr (Sched.expand 1 sec Sched.lIv [] 12)), .int .i64 0]) ∧ OwnB w' w.heap.size v (Sched.expand 1 sec Sched.lKey [] 32) ∧ Below w.heap.size w w' := by
  obtain ⟨IV, nIV, HI, HIl'⟩ := named (Sched.expand 1 sec Sched.lIv [] 12)
  have HIl := hd (show IV.length = 12 by rw [← HI.out]; exact expand_iv_len 1 (.inl rfl) sec)
  obtain ⟨K, nK, HK, HKl⟩ := named (Sched.expand 1 sec Sched.lKey [] 32)
  have HE1 := hd (err_key 1 (.inl rfl) Sched.lKey 32 (by decide) (by decide) (by decide))
  have HE2 := hd (err_key 1 (.inl rfl) Sched.lIv 12 (by decide) (by decide) (by decide))
  rw [HI.out, HK.out]
  have bz : Blk (w.alloc (.cells (arr (List.replicate 12 0)) 29)) w.heap.size 29 (arr (List.replicate 12 0)) := Blk.nu rfl
  have hB0 : Below w.heap.size w (w.alloc (.cells (arr (List.replicate 12 0)) 29)) := (Below.refl _ _).alloc (Nat.le_refl _) _
  have Hz := hd (show w.heap.size < (w.alloc (.cells (arr (List.replicate 12 0)) 29)).heap.size by simp)
  go_enter Tryz.func11, Tryz.ntmps11
  go_upto_region 6 with (first | (go_at_call 30; refine (sexpand_any 1 A m c sec Sched.lIv none 0 0 [] 12 w3 ⟨hr.len, (hr.is.below hB3).more hB3.size⟩ hm ⟨rfl, Reads.none_⟩ (htb.below hB3)).mono ?_; rintro e w4 ⟨v4, rfl, own4, hB34⟩; rw [HI.out] at own4; rw [HE2.out]; obtain ⟨Ai', ci, ei⟩ := own4.slice; rw [HIl.out] at ei; subst ei; have hB4 := hB3.trans (hB34.mono hB3.size); have bz4 := bz3.below hB34 hz3) | (go_at_call 30; refine (sexpand_any 1 A m c sec Sched.lKey none 0 0 [] 32 w2 ⟨hr.len, (hr.is.below hB2).more hB2.size⟩ hm ⟨rfl, Reads.none_⟩ (htb.below hB2)).mono ?_; rintro e w3 ⟨v3, rfl, own3, hB23⟩; rw [HK.out] at own3; rw [HE1.out]; obtain ⟨Ak, ck, ek⟩ := own3.slice; rw [HKl.out] at ek; subst ek; have hB3 := hB2.trans (hB23.mono hB2.size); have bz3 := bz2.below hB23 hz2; have hz3 := Nat.lt_of_lt_of_le hz2 hB23.size) | (go_at_call 31; refine (KeyLen_cha w1).mono ?_; rintro e w2 ⟨rfl, hB12⟩; have hB2 := hB1.trans (hB12.mono hB1.size); have bz2 := bz1.below hB12 hz1; have hz2 := Nat.lt_of_lt_of_le hz1 hB12.size) | (go_at_call 29; refine (Hash_cha _).mono ?_; rintro e w1 ⟨rfl, hB01⟩; have hB1 := hB0.trans (hB01.mono hB0.size); have bz1 := bz.below hB01 Hz.out; have hz1 := Nat.lt_of_lt_of_le Hz.out hB01.size; clear bz hB0) | (refine wpl_alloc rfl 29 rfl _ zero12n ?_))
  have rI0 : ReadsB w4 w4.heap.size Ai' 12 IV := ⟨HIl.out, own4.reads_any.2.is⟩
  have ownK4 : OwnB w4 w.heap.size (.slice Ak nK ck) K := (own3.low hB2.size).later hB34
  obtain ⟨gi, capi, ef, hgi, _⟩ := own4.form (by rw [HIl.out]; omega)
  have hAi' : Ai' = some ⟨gi, 0, none⟩ := by injection ef
  clear ef
  subst hAi'
  obtain ⟨Ai, HAi⟩ : ∃ x : Addr, Hd (⟨gi, 0, none⟩ = x) := ⟨_, ⟨rfl⟩⟩
  have hAi : w.heap.size ≠ Ai.block := by rw [← HAi.out]; show w.heap.size ≠ gi; omega
  rw [HAi.out] at rI0 ⊢
  have rI := rI0
  clear rI0 own4 own3 bz3 bz2 bz1 hgi
  refine v_start PR ((fun W => Below w.heap.size w W ∧ ReadsB W W.heap.size (some Ai) 12 IV ∧ OwnB W w.heap.size (.slice Ak nK ck) K), (fun W => Blk W w.heap.size 29 (arr (List.replicate 12 0)))) (by kernel_rfl) (show PW _ w4.drew from ⟨⟨hB4.drew, rI.drew, ownK4.drew⟩, bz4.drew⟩) ?_
  refine p_take 0 (o := _) rfl (by kernel_rfl) (by kernel_rfl) (by kernel_rfl) (wanted_plain rfl) (.slice Ak nK ck) (fun _ _ _ h => h) (fun W hW => run_move (by rfl) (by simp [Act.eval]) W) ?_
  simp only [Act.put, List.getElem_toArray, List.getElem_cons_succ, List.getElem_cons_zero, List.setIfInBounds_toArray, List.set_cons_zero, List.set_cons_succ]
  refine p_take 1 (o := _) rfl (by kernel_rfl) (by kernel_rfl) (by kernel_rfl) (wanted_plain rfl) (.slice (some Ai) 12 ci) (fun _ _ _ h => h) (fun W hW => run_move (by rfl) (by simp [Act.eval]) W) ?_
  simp only [Act.put, List.getElem_toArray, List.getElem_cons_succ, List.getElem_cons_zero, List.setIfInBounds_toArray, List.set_cons_zero, List.set_cons_succ]
  refine p_take 2 (o := _) rfl (by kernel_rfl) (by kernel_rfl) (by kernel_rfl) (wanted_plain rfl) (.pointer (some Ai)) (fun _ _ _ h => h) (fun W hW => run_toArr (by rfl) (some Ai) 12 ci (by simp [Act.eval]) Tryz.underlying29 (by omega)) ?_
  simp only [Act.put, List.getElem_toArray, List.getElem_cons_succ, List.getElem_cons_zero, List.setIfInBounds_toArray, List.set_cons_zero, List.set_cons_succ]
  refine p_take 3 (o := _) rfl (by kernel_rfl) (by kernel_rfl) (by kernel_rfl) (wanted_plain rfl) (.agg (arr IV)) (fun _ _ _ h => h) (fun W hW => run_load_arr (by rfl) (by simp [Act.eval]) ty12 IV HIl.out (reads_cells hW.2.1)) ?_
  simp only [Act.put, List.getElem_toArray, List.getElem_cons_succ, List.getElem_cons_zero, List.setIfInBounds_toArray, List.set_cons_zero, List.set_cons_succ]
  refine p_take 4 (o := _) rfl (by kernel_rfl) (by kernel_rfl) (by kernel_rfl) (wanted_plain rfl) (.slice Ak nK ck) (fun _ _ _ h => h) (fun W hW => run_assign (by rfl) (by simp [Act.eval]) W) ?_
  simp only [Act.put, List.getElem_toArray, List.getElem_cons_succ, List.getElem_cons_zero, List.setIfInBounds_toArray, List.set_cons_zero, List.set_cons_succ]
  refine p_one 5 (by kernel_rfl) (fun W hW hX => ?_)
  refine op_skip (o := _) rfl (wanted_plain rfl) (w2 := W.setRow w.heap.size (arr IV)) (run_store_row (by rfl) w.heap.size IV (by simp [Act.eval]) (by simp [Act.eval]) 29 _ hX 12 (by kernel_rfl) HIl.out (by rw [arr_size, List.length_replicate])) ?_
  have hg := grew_setRow (World.grownBy.refl W (some w.heap.size)) (arr IV)
  have hne := own_blk_ne hW.2.2.own hX (by decide)
  refine Next.mk (fun W => Below w.heap.size w W ∧ ReadsB W W.heap.size (some Ai) 12 IV ∧ OwnB W w.heap.size (.slice Ak nK ck) K) (fun W => Blk W w.heap.size 29 (arr IV)) (fun _ h => h) ⟨below_setRow hW.1 (Nat.le_refl _) _, ?_, hW.2.2.moved hg hne⟩ (hX.setRow _) ?_
  · exact reads_moved hW.2.1 hg hAi
  simp only [Act.put, List.getElem_toArray, List.getElem_cons_succ, List.getElem_cons_zero, List.setIfInBounds_toArray, List.set_cons_zero, List.set_cons_succ]
  refine p_take 6 (o := _) rfl (by kernel_rfl) (by kernel_rfl) (by kernel_rfl) (wanted_plain rfl) (.int .i64 0) (fun _ _ _ h => h) (fun W hW => run_assign (by rfl) (by simp [Act.eval]) W) ?_
  simp only [Act.put, List.getElem_toArray, List.getElem_cons_succ, List.getElem_cons_zero, List.setIfInBounds_toArray, List.set_cons_zero, List.set_cons_succ]
  refine (show ∀ n, wpAnyV _ _ _ _ _ _ n _ _ _ from fun n => v_done (by kernel_rfl) (fun W hW => ?_) n) _
  go_wp2
  exact ret_keys rfl w.heap.size rfl _ _ rfl rfl ty12 IV HIl.out (Blk.cells_arr hW.2) rfl ⟨_, rfl, hW.1.2.2, hW.1.1⟩
set_option maxHeartbeats 4000000 in
set_option maxRecDepth 100000 in
theorem keys_none (s : UInt16) (h1 : (s == 4865) = false) (h2 : (s == 4866) = false) (h3 : (s == 4867) = false) (v : Value) (w : World) :
    Calls Tryz.prog 11 #[.int .u16 ((n16 s : Nat) : Int), v] w fun e w' => e = .returned (.tuple #[.slice none 0 0, .agg (arr (List.replicate 12 0)), .int .i64 191]) ∧ Below w.heap.size w w' := by
  obtain ⟨Z, HZ⟩ : ∃ x, Hd (List.replicate 12 (0 : UInt8) = x) := ⟨_, ⟨rfl⟩⟩
  have HZl := hd (show Z.length = 12 by rw [← HZ.out]; rfl)
  have bz : Blk (w.alloc (.cells (arr Z) 29)) w.heap.size 29 (arr Z) := Blk.nu rfl
  have hB0 : Below w.heap.size w (w.alloc (.cells (arr Z) 29)) := (Below.refl _ _).alloc (Nat.le_refl _) _
  have Hz := hd (show w.heap.size < (w.alloc (.cells (arr Z) 29)).heap.size by simp)
  have hzr := zero12n
  have hbt := built12
  rw [HZ.out] at hzr hbt ⊢
  have Hzr := hd hzr
  have Hbt := hd hbt
  clear hzr hbt
  go_enter Tryz.func11, Tryz.ntmps11
  go_wp2_with (first | (refine wpl_store_arr rfl 29 _ _ rfl w.heap.size Z rfl rfl 29 _ bz1 12 (by kernel_rfl) HZl.out (by rw [arr_size, HZl.out]) ?_) | (refine wpl_build rfl 29 _ rfl [] rfl _ Hbt.out ?_) | (go_at_call 29; refine (Hash_none s h1 h2 h3 _).mono ?_; rintro e w1 ⟨rfl, hB01⟩; have hB1 := hB0.trans (hB01.mono hB0.size); have bz1 := bz.below hB01 Hz.out; clear bz hB0) | (refine wpl_alloc rfl 29 rfl _ Hzr.out ?_))
  exact ret_keys rfl w.heap.size rfl _ _ rfl rfl ty12 Z HZl.out (Blk.cells_arr (bz1.setRow _)) rfl ⟨rfl, below_setRow hB1 (Nat.le_refl _) _⟩
set_option maxHeartbeats 4000000 in
set_option maxRecDepth 100000 in
theorem rkeys_128 (A : Option Addr) (m c : Nat) (sec : List UInt8) (w : World) (hr : ReadsB w w.heap.size A m sec) (hm : m ≤ 140737488353000) :
    Calls Tryz.prog 12 #[.int .u16 4865, .slice A m c] w fun e w' => ∃ v, e = .returned (.tuple #[v, .agg (arr (Sched.expand 1 sec Sched.lIv [] 12)), .int .i64 0]) ∧ OwnB w' w.heap.size v (Sched.expand 1 sec Sched.lKey [] 16) ∧ Below w.heap.size w w' := by
  obtain ⟨IV, nIV, HI, HIl'⟩ := named (Sched.expand 1 sec Sched.lIv [] 12)
  have HIl := hd (show IV.length = 12 by rw [← HI.out]; exact expand_iv_len 1 (.inl rfl) sec)
  obtain ⟨K, nK, HK, HKl⟩ := named (Sched.expand 1 sec Sched.lKey [] 16)
  have HE1 := hd (err_key 1 (.inl rfl) Sched.lKey 16 (by decide) (by decide) (by decide))
  have HE2 := hd (err_key 1 (.inl rfl) Sched.lIv 12 (by decide) (by decide) (by decide))
  rw [HI.out, HK.out]
  have bz : Blk (w.alloc (.cells (arr (List.replicate 12 0)) 29)) w.heap.size 29 (arr (List.replicate 12 0)) := Blk.nu rfl
  have hB0 : Below w.heap.size w (w.alloc (.cells (arr (List.replicate 12 0)) 29)) := (Below.refl _ _).alloc (Nat.le_refl _) _
  have Hz := hd (show w.heap.size < (w.alloc (.cells (arr (List.replicate 12 0)) 29)).heap.size by simp)
  go_enter Tryz.func12, Tryz.ntmps12
  go_wp2_with (first | (go_at_call 33; refine (rsexpand_any 1 A m c sec Sched.lIv none 0 0 [] 12 w3 ⟨hr.len, (hr.is.below hB3).more hB3.size⟩ hm ⟨rfl, Reads.none_⟩).mono ?_; rintro e w4 ⟨v4, rfl, own4, hB34⟩; rw [HI.out] at own4; rw [HE2.out]; obtain ⟨Ai', ci, ei⟩ := own4.slice; rw [HIl.out] at ei; subst ei; have hB4 := hB3.trans (hB34.mono hB3.size); have bz4 := bz3.below hB34 hz3; have hz4 := Nat.lt_of_lt_of_le hz3 hB34.size) | (go_at_call 33; refine (rsexpand_any 1 A m c sec Sched.lKey none 0 0 [] 16 w2 ⟨hr.len, (hr.is.below hB2).more hB2.size⟩ hm ⟨rfl, Reads.none_⟩).mono ?_; rintro e w3 ⟨v3, rfl, own3, hB23⟩; rw [HK.out] at own3; rw [HE1.out]; obtain ⟨Ak, ck, ek⟩ := own3.slice; rw [HKl.out] at ek; subst ek; have hB3 := hB2.trans (hB23.mono hB2.size); have bz3 := bz2.below hB23 hz2; have hz3 := Nat.lt_of_lt_of_le hz2 hB23.size) | (go_at_call 34; refine (rKeyLen_128 w1).mono ?_; rintro e w2 ⟨rfl, hB12⟩; have hB2 := hB1.trans (hB12.mono hB1.size); have bz2 := bz1.below hB12 hz1; have hz2 := Nat.lt_of_lt_of_le hz1 hB12.size) | (go_at_call 32; refine (rHash_128 _).mono ?_; rintro e w1 ⟨rfl, hB01⟩; have hB1 := hB0.trans (hB01.mono hB0.size); have bz1 := bz.below hB01 Hz.out; have hz1 := Nat.lt_of_lt_of_le Hz.out hB01.size; clear bz hB0) | (refine wpl_alloc rfl 29 rfl _ zero12n ?_))
  have hr4 : ReadsB w4 w4.heap.size Ai' 12 IV := ⟨HIl.out, own4.reads_any.2.is⟩
  have hE : Below w4.heap.size w4 (w4.alloc (.cells (arr (List.replicate 12 0)) 29)) := (Below.refl _ _).alloc (Nat.le_refl _) _
  have ownK5 : OwnB (w4.alloc (.cells (arr (List.replicate 12 0)) 29)) w.heap.size (.slice Ak nK ck) K := ((own3.low hB2.size).later hB34).later hE
  have h2 : Blk (w4.alloc (.cells (arr (List.replicate 12 0)) 29)) w4.heap.size 29 (arr (List.replicate 12 0)) := Blk.nu rfl
  have h1 := bz4.alloc (.cells (arr (List.replicate 12 0)) 29)
  have hB5 := hB4.trans (hE.mono hB4.size)
  have HR4 := hd hr4
  clear own4 own3 bz4 bz3 bz2 bz1 hr4
  go_loopw [13] (fun i wr => ∃ k : Nat, k ≤ 12 ∧ i = .int .i64 (k : Int) ∧ Blk wr w.heap.size 29 (arr (List.replicate 12 0)) ∧ Blk wr w4.heap.size 29 (arr (iter (Suite.fillStep IV) k (List.replicate 12 0))) ∧ OwnB wr w.heap.size (.slice Ak nK ck) K ∧ Below w.heap.size w wr ∧ Below w4.heap.size w4 wr) (fun i _ => 12 - (intOf i).toNat)
  case atStart => exact ⟨0, by omega, rfl, h1, h2, ownK5, hB5, hE⟩
  case round =>
    clear h1 h2 ownK5 hB5 hE
    obtain ⟨k, hk, rfl, b1, b2, ownr, hBr, hE⟩ := hrel
    obtain ⟨s, Hs⟩ : ∃ s, Hd (iter (Suite.fillStep IV) k (List.replicate 12 0) = s) := ⟨_, ⟨rfl⟩⟩
    rw [Hs.out] at b2
    have Hl := hd (show s.length = 12 by rw [← Hs.out, Suite.fillStep_len]; exact List.length_replicate)
    by_cases hlt : k < 12
    · have tk : (k : Int) < 12 := by omega
      obtain ⟨ad, hA, had, hcw⟩ := HR4.out.cell hlt
      subst hA
      have c0 : wr.cell? (ad.add k) = some (.int .u8 (n8 (nth IV k))) := (hE.cell (by rw [block_of_add]; exact had)).trans hcw
      have c1 := b2.arr_cell k (by rw [Hl.out]; exact hlt)
      have f1 := b2.frozen k
      have Ow := hd ownr
      have hne := hd (own_blk_ne ownr.own b2 (by decide))
      clear ownr
      go_wp2
      go_roundw
      case rel => exact ⟨k + 1, by omega, by go_num, b1.far (Nat.ne_of_lt hz4) _, by rw [iter, Hs.out]; exact b2.arr_set _ _, Ow.out.far hne.out _, hBr.setCell (Nat.le_of_lt hz4) _, hE.setCell (Nat.le_refl _) _⟩
      case measure => simp [intOf] <;> omega
    · have ek : k = 12 := by omega
      subst ek
      have tk : ¬ ((12 : Nat) : Int) < 12 := by omega
      have Hfin := hd (show IV = s by
        have h := Suite.fill_all IV
        rw [HIl.out, Hs.out] at h
        exact h.symm)
      rw [← Hfin.out] at b2
      go_upto_region 11 with fail
      refine v_start PR ((fun W => Below w.heap.size w W ∧ OwnB W w.heap.size (.slice Ak nK ck) K ∧ Blk W w4.heap.size 29 (arr IV)), (fun W => Blk W w.heap.size 29 (arr (List.replicate 12 0)))) (by kernel_rfl) (show PW _ wr.drew from ⟨⟨hBr.drew, ownr.drew, b2.drew⟩, b1.drew⟩) ?_
      refine p_take 0 (o := _) rfl (by kernel_rfl) (by kernel_rfl) (by kernel_rfl) (wanted_plain rfl) (.slice Ak nK ck) (fun _ _ _ h => h) (fun W hW => run_move (by rfl) (by simp [Act.eval]) W) ?_
      simp only [Act.put, List.getElem_toArray, List.getElem_cons_succ, List.getElem_cons_zero, List.setIfInBounds_toArray, List.set_cons_zero, List.set_cons_succ]
      refine p_take 1 (o := _) rfl (by kernel_rfl) (by kernel_rfl) (by kernel_rfl) (wanted_plain rfl) (.agg (arr IV)) (fun _ _ _ h => h) (fun W hW => run_load_arr (by rfl) (by simp [Act.eval]) ty12 IV HIl.out (Blk.cells_arr hW.2.2)) ?_
      simp only [Act.put, List.getElem_toArray, List.getElem_cons_succ, List.getElem_cons_zero, List.setIfInBounds_toArray, List.set_cons_zero, List.set_cons_succ]
      refine p_take 2 (o := _) rfl (by kernel_rfl) (by kernel_rfl) (by kernel_rfl) (wanted_plain rfl) (.slice Ak nK ck) (fun _ _ _ h => h) (fun W hW => run_assign (by rfl) (by simp [Act.eval]) W) ?_
      simp only [Act.put, List.getElem_toArray, List.getElem_cons_succ, List.getElem_cons_zero, List.setIfInBounds_toArray, List.set_cons_zero, List.set_cons_succ]
      refine p_one 3 (by kernel_rfl) (fun W hW hX => ?_)
      refine op_skip (o := _) rfl (wanted_plain rfl) (w2 := W.setRow w.heap.size (arr IV)) (run_store_row (by rfl) w.heap.size IV (by simp [Act.eval]) (by simp [Act.eval]) 29 _ hX 12 (by kernel_rfl) HIl.out (by rw [arr_size, List.length_replicate])) ?_
      have hg := grew_setRow (World.grownBy.refl W (some w.heap.size)) (arr IV)
      have hne := own_blk_ne hW.2.1.own hX (by decide)
      refine Next.mk (fun W => Below w.heap.size w W ∧ OwnB W w.heap.size (.slice Ak nK ck) K ∧ Blk W w4.heap.size 29 (arr IV)) (fun W => Blk W w.heap.size 29 (arr IV)) (fun _ h => h) ⟨below_setRow hW.1 (Nat.le_refl _) _, hW.2.1.moved hg hne, hW.2.2.farRow (Nat.ne_of_gt hz4) _⟩ (hX.setRow _) ?_
      simp only [Act.put, List.getElem_toArray, List.getElem_cons_succ, List.getElem_cons_zero, List.setIfInBounds_toArray, List.set_cons_zero, List.set_cons_succ]
      refine p_take 4 (o := _) rfl (by kernel_rfl) (by kernel_rfl) (by kernel_rfl) (wanted_plain rfl) (.int .i64 0) (fun _ _ _ h => h) (fun W hW => run_assign (by rfl) (by simp [Act.eval]) W) ?_
      simp only [Act.put, List.getElem_toArray, List.getElem_cons_succ, List.getElem_cons_zero, List.setIfInBounds_toArray, List.set_cons_zero, List.set_cons_succ]
      refine (show ∀ n, wpAnyV _ _ _ _ _ _ n _ _ _ from fun n => v_done (by kernel_rfl) (fun W hW => ?_) n) _
      go_wp2
      exact ret_keys rfl w.heap.size rfl _ _ rfl rfl ty12 IV HIl.out (Blk.cells_arr hW.2) rfl ⟨_, rfl, hW.1.2.1, hW.1.1⟩
set_option maxHeartbeats 4000000 in
set_option maxRecDepth 100000 in
theorem rkeys_256 (A : Option Addr) (m c : Nat) (sec : List UInt8) (w : World) (hr : ReadsB w w.heap.size A m sec) (hm : m ≤ 140737488353000) :
    Calls Tryz.prog 12 #[.int .u16 4866, .slice A m c] w fun e w' => ∃ v, e = .returned (.tuple #[v, .agg (arr (Sched.expand 2 sec Sched.lIv [] 12)), .int .i64 0]) ∧ OwnB w' w.heap.size v (Sched.expand 2 sec Sched.lKey [] 32) ∧ Below w.heap.size w w' := by
  obtain ⟨IV, nIV, HI, HIl'⟩ := named (Sched.expand 2 sec Sched.lIv [] 12)
  have HIl := hd (show IV.length = 12 by rw [← HI.out]; exact expand_iv_len 2 (.inr (.inl rfl)) sec)
  obtain ⟨K, nK, HK, HKl⟩ := named (Sched.expand 2 sec Sched.lKey [] 32)
  have HE1 := hd (err_key 2 (.inr (.inl rfl)) Sched.lKey 32 (by decide) (by decide) (by decide))
  have HE2 := hd (err_key 2 (.inr (.inl rfl)) Sched.lIv 12 (by decide) (by decide) (by decide))
  rw [HI.out, HK.out]
  have bz : Blk (w.alloc (.cells (arr (List.replicate 12 0)) 29)) w.heap.size 29 (arr (List.replicate 12 0)) := Blk.nu rfl
  have hB0 : Below w.heap.size w (w.alloc (.cells (arr (List.replicate 12 0)) 29)) := (Below.refl _ _).alloc (Nat.le_refl _) _
  have Hz := hd (show w.heap.size < (w.alloc (.cells (arr (List.replicate 12 0)) 29)).heap.size by simp)
  go_enter Tryz.func12, Tryz.ntmps12
  go_wp2_with (first | (go_at_call 33; refine (rsexpand_any 2 A m c sec Sched.lIv none 0 0 [] 12 w3 ⟨hr.len, (hr.is.below hB3).more hB3.size⟩ hm ⟨rfl, Reads.none_⟩).mono ?_; rintro e w4 ⟨v4, rfl, own4, hB34⟩; rw [HI.out] at own4; rw [HE2.out]; obtain ⟨Ai', ci, ei⟩ := own4.slice; rw [HIl.out] at ei; subst ei; have hB4 := hB3.trans (hB34.mono hB3.size); have bz4 := bz3.below hB34 hz3; have hz4 := Nat.lt_of_lt_of_le hz3 hB34.size) | (go_at_call 33; refine (rsexpand_any 2 A m c sec Sched.lKey none 0 0 [] 32 w2 ⟨hr.len, (hr.is.below hB2).more hB2.size⟩ hm ⟨rfl, Reads.none_⟩).mono ?_; rintro e w3 ⟨v3, rfl, own3, hB23⟩; rw [HK.out] at own3; rw [HE1.out]; obtain ⟨Ak, ck, ek⟩ := own3.slice; rw [HKl.out] at ek; subst ek; have hB3 := hB2.trans (hB23.mono hB2.size); have bz3 := bz2.below hB23 hz2; have hz3 := Nat.lt_of_lt_of_le hz2 hB23.size) | (go_at_call 34; refine (rKeyLen_256 w1).mono ?_; rintro e w2 ⟨rfl, hB12⟩; have hB2 := hB1.trans (hB12.mono hB1.size); have bz2 := bz1.below hB12 hz1; have hz2 := Nat.lt_of_lt_of_le hz1 hB12.size) | (go_at_call 32; refine (rHash_256 _).mono ?_; rintro e w1 ⟨rfl, hB01⟩; have hB1 := hB0.trans (hB01.mono hB0.size); have bz1 := bz.below hB01 Hz.out; have hz1 := Nat.lt_of_lt_of_le Hz.out hB01.size; clear bz hB0) | (refine wpl_alloc rfl 29 rfl _ zero12n ?_))
  have hr4 : ReadsB w4 w4.heap.size Ai' 12 IV := ⟨HIl.out, own4.reads_any.2.is⟩
  have hE : Below w4.heap.size w4 (w4.alloc (.cells (arr (List.replicate 12 0)) 29)) := (Below.refl _ _).alloc (Nat.le_refl _) _
  have ownK5 : OwnB (w4.alloc (.cells (arr (List.replicate 12 0)) 29)) w.heap.size (.slice Ak nK ck) K := ((own3.low hB2.size).later hB34).later hE
  have h2 : Blk (w4.alloc (.cells (arr (List.replicate 12 0)) 29)) w4.heap.size 29 (arr (List.replicate 12 0)) := Blk.nu rfl
  have h1 := bz4.alloc (.cells (arr (List.replicate 12 0)) 29)
  have hB5 := hB4.trans (hE.mono hB4.size)
  have HR4 := hd hr4
  clear own4 own3 bz4 bz3 bz2 bz1 hr4
  go_loopw [13] (fun i wr => ∃ k : Nat, k ≤ 12 ∧ i = .int .i64 (k : Int) ∧ Blk wr w.heap.size 29 (arr (List.replicate 12 0)) ∧ Blk wr w4.heap.size 29 (arr (iter (Suite.fillStep IV) k (List.replicate 12 0))) ∧ OwnB wr w.heap.size (.slice Ak nK ck) K ∧ Below w.heap.size w wr ∧ Below w4.heap.size w4 wr) (fun i _ => 12 - (intOf i).toNat)
  case atStart => exact ⟨0, by omega, rfl, h1, h2, ownK5, hB5, hE⟩
  case round =>
    clear h1 h2 ownK5 hB5 hE
    obtain ⟨k, hk, rfl, b1, b2, ownr, hBr, hE⟩ := hrel
    obtain ⟨s, Hs⟩ : ∃ s, Hd (iter (Suite.fillStep IV) k (List.replicate 12 0) = s) := ⟨_, ⟨rfl⟩⟩
    rw [Hs.out] at b2
    have Hl := hd (show s.length = 12 by rw [← Hs.out, Suite.fillStep_len]; exact List.length_replicate)
    by_cases hlt : k < 12
    · have tk : (k : Int) < 12 := by omega
      obtain ⟨ad, hA, had, hcw⟩ := HR4.out.cell hlt
      subst hA
      have c0 : wr.cell? (ad.add k) = some (.int .u8 (n8 (nth IV k))) := (hE.cell (by rw [block_of_add]; exact had)).trans hcw
      have c1 := b2.arr_cell k (by rw [Hl.out]; exact hlt)
      have f1 := b2.frozen k
      have Ow := hd ownr
      have hne := hd (own_blk_ne ownr.own b2 (by decide))
      clear ownr
      go_wp2
      go_roundw
      case rel => exact ⟨k + 1, by omega, by go_num, b1.far (Nat.ne_of_lt hz4) _, by rw [iter, Hs.out]; exact b2.arr_set _ _, Ow.out.far hne.out _, hBr.setCell (Nat.le_of_lt hz4) _, hE.setCell (Nat.le_refl _) _⟩
      case measure => simp [intOf] <;> omega
    · have ek : k = 12 := by omega
      subst ek
      have tk : ¬ ((12 : Nat) : Int) < 12 := by omega
      have Hfin := hd (show IV = s by
        have h := Suite.fill_all IV
        rw [HIl.out, Hs.out] at h
        exact h.symm)
      rw [← Hfin.out] at b2
      go_upto_region 11 with fail
      refine v_start PR ((fun W => Below w.heap.size w W ∧ OwnB W w.heap.size (.slice Ak nK ck) K ∧ Blk W w4.heap.size 29 (arr IV)), (fun W => Blk W w.heap.size 29 (arr (List.replicate 12 0)))) (by kernel_rfl) (show PW _ wr.drew from ⟨⟨hBr.drew, ownr.drew, b2.drew⟩, b1.drew⟩) ?_
      refine p_take 0 (o := _) rfl (by kernel_rfl) (by kernel_rfl) (by kernel_rfl) (wanted_plain rfl) (.slice Ak nK ck) (fun _ _ _ h => h) (fun W hW => run_move (by rfl) (by simp [Act.eval]) W) ?_
      simp only [Act.put, List.getElem_toArray, List.getElem_cons_succ, List.getElem_cons_zero, List.setIfInBounds_toArray, List.set_cons_zero, List.set_cons_succ]
      refine p_take 1 (o := _) rfl (by kernel_rfl) (by kernel_rfl) (by kernel_rfl) (wanted_plain rfl) (.agg (arr IV)) (fun _ _ _ h => h) (fun W hW => run_load_arr (by rfl) (by simp [Act.eval]) ty12 IV HIl.out (Blk.cells_arr hW.2.2)) ?_
      simp only [Act.put, List.getElem_toArray, List.getElem_cons_succ, List.getElem_cons_zero, List.setIfInBounds_toArray, List.set_cons_zero, List.set_cons_succ]
      refine p_take 2 (o := _) rfl (by kernel_rfl) (by kernel_rfl) (by kernel_rfl) (wanted_plain rfl) (.slice Ak nK ck) (fun _ _ _ h => h) (fun W hW => run_assign (by rfl) (by simp [Act.eval]) W) ?_
      simp only [Act.put, List.getElem_toArray, List.getElem_cons_succ, List.getElem_cons_zero, List.setIfInBounds_toArray, List.set_cons_zero, List.set_cons_succ]
      refine p_one 3 (by kernel_rfl) (fun W hW hX => ?_)
      refine op_skip (o := _) rfl (wanted_plain rfl) (w2 := W.setRow w.heap.size (arr IV)) (run_store_row (by rfl) w.heap.size IV (by simp [Act.eval]) (by simp [Act.eval]) 29 _ hX 12 (by kernel_rfl) HIl.out (by rw [arr_size, List.length_replicate])) ?_
      have hg := grew_setRow (World.grownBy.refl W (some w.heap.size)) (arr IV)
      have hne := own_blk_ne hW.2.1.own hX (by decide)
      refine Next.mk (fun W => Below w.heap.size w W ∧ OwnB W w.heap.size (.slice Ak nK ck) K ∧ Blk W w4.heap.size 29 (arr IV)) (fun W => Blk W w.heap.size 29 (arr IV)) (fun _ h => h) ⟨below_setRow hW.1 (Nat.le_refl _) _, hW.2.1.moved hg hne, hW.2.2.farRow (Nat.ne_of_gt hz4) _⟩ (hX.setRow _) ?_
      simp only [Act.put, List.getElem_toArray, List.getElem_cons_succ, List.getElem_cons_zero, List.setIfInBounds_toArray, List.set_cons_zero, List.set_cons_succ]
      refine p_take 4 (o := _) rfl (by kernel_rfl) (by kernel_rfl) (by kernel_rfl) (wanted_plain rfl) (.int .i64 0) (fun _ _ _ h => h) (fun W hW => run_assign (by rfl) (by simp [Act.eval]) W) ?_
      simp only [Act.put, List.getElem_toArray, List.getElem_cons_succ, List.getElem_cons_zero, List.setIfInBounds_toArray, List.set_cons_zero, List.set_cons_succ]
      refine (show ∀ n, wpAnyV _ _ _ _ _ _ n _ _ _ from fun n => v_done (by kernel_rfl) (fun W hW => ?_) n) _
      go_wp2
      exact ret_keys rfl w.heap.size rfl _ _ rfl rfl ty12 IV HIl.out (Blk.cells_arr hW.2) rfl ⟨_, rfl, hW.1.2.1, hW.1.1⟩
set_option maxHeartbeats 4000000 in
set_option maxRecDepth 100000 in
theorem rkeys_cha (A : Option Addr) (m c : Nat) (sec : List UInt8) (w : World) (hr : ReadsB w w.heap.size A m sec) (hm : m ≤ 140737488353000) :
    Calls Tryz.prog 12 #[.int .u16 4867, .slice A m c] w fun e w' => ∃ v, e = .returned (.tuple #[v, .agg (arr (Sched.expand 1 sec Sched.lIv [] 12)), .int .i64 0]) ∧ OwnB w' w.heap.size v (Sched.expand 1 sec Sched.lKey [] 32) ∧ Below w.heap.size w w' := by
  obtain ⟨IV, nIV, HI, HIl'⟩ := named (Sched.expand 1 sec Sched.lIv [] 12)
  have HIl := hd (show IV.length = 12 by rw [← HI.out]; exact expand_iv_len 1 (.inl rfl) sec)
  obtain ⟨K, nK, HK, HKl⟩ := named (Sched.expand 1 sec Sched.lKey [] 32)
  have HE1 := hd (err_key 1 (.inl rfl) Sched.lKey 32 (by decide) (by decide) (by decide))
  have HE2 := hd (err_key 1 (.inl rfl) Sched.lIv 12 (by decide) (by decide) (by decide))
  rw [HI.out, HK.out]
  have bz : Blk (w.alloc (.cells (arr (List.replicate 12 0)) 29)) w.heap.size 29 (arr (List.replicate 12 0)) := Blk.nu rfl
  have hB0 : Below w.heap.size w (w.alloc (.cells (arr (List.replicate 12 0)) 29)) := (Below.refl _ _).alloc (Nat.le_refl _) _
  have Hz := hd (show w.heap.size < (w.alloc (.cells (arr (List.replicate 12 0)) 29)).heap.size by simp)
  go_enter Tryz.func12, Tryz.ntmps12
  go_wp2_with (first | (go_at_call 33; refine (rsexpand_any 1 A m c sec Sched.lIv none 0 0 [] 12 w3 ⟨hr.len, (hr.is.below hB3).more hB3.size⟩ hm ⟨rfl, Reads.none_⟩).mono ?_; rintro e w4 ⟨v4, rfl, own4, hB34⟩; rw [HI.out] at own4; rw [HE2.out]; obtain ⟨Ai', ci, ei⟩ := own4.slice; rw [HIl.out] at ei; subst ei; have hB4 := hB3.trans (hB34.mono hB3.size); have bz4 := bz3.below hB34 hz3; have hz4 := Nat.lt_of_lt_of_le hz3 hB34.size) | (go_at_call 33; refine (rsexpand_any 1 A m c sec Sched.lKey none 0 0 [] 32 w2 ⟨hr.len, (hr.is.below hB2).more hB2.size⟩ hm ⟨rfl, Reads.none_⟩).mono ?_; rintro e w3 ⟨v3, rfl, own3, hB23⟩; rw [HK.out] at own3; rw [HE1.out]; obtain ⟨Ak, ck, ek⟩ := own3.slice; rw [HKl.out] at ek; subst ek; have hB3 := hB2.trans (hB23.mono hB2.size); have bz3 := bz2.below hB23 hz2; have hz3 := Nat.lt_of_lt_of_le hz2 hB23.size) | (go_at_call 34; refine (rKeyLen_cha w1).mono ?_; rintro e w2 ⟨rfl, hB12⟩; have hB2 := hB1.trans (hB12.mono hB1.size); have bz2 := bz1.below hB12 hz1; have hz2 := Nat.lt_of_lt_of_le hz1 hB12.size) | (go_at_call 32; refine (rHash_cha _).mono ?_; rintro e w1 ⟨rfl, hB01⟩; have hB1 := hB0.trans (hB01.mono hB0.size); have bz1 := bz.below hB01 Hz.out; have hz1 := Nat.lt_of_lt_of_le Hz.out hB01.size; clear bz hB0) | (refine wpl_alloc rfl 29 rfl _ zero12n ?_))
  have hr4 : ReadsB w4 w4.heap.size Ai' 12 IV := ⟨HIl.out, own4.reads_any.2.is⟩
  have hE : Below w4.heap.size w4 (w4.alloc (.cells (arr (List.replicate 12 0)) 29)) := (Below.refl _ _).alloc (Nat.le_refl _) _
  have ownK5 : OwnB (w4.alloc (.cells (arr (List.replicate 12 0)) 29)) w.heap.size (.slice Ak nK ck) K := ((own3.low hB2.size).later hB34).later hE
  have h2 : Blk (w4.alloc (.cells (arr (List.replicate 12 0)) 29)) w4.heap.size 29 (arr (List.replicate 12 0)) := Blk.nu rfl
  have h1 := bz4.alloc (.cells (arr (List.replicate 12 0)) 29)
  have hB5 := hB4.trans (hE.mono hB4.size)
  have HR4 := hd hr4
  clear own4 own3 bz4 bz3 bz2 bz1 hr4
  go_loopw [13] (fun i wr => ∃ k : Nat, k ≤ 12 ∧ i = .int .i64 (k : Int) ∧ Blk wr w.heap.size 29 (arr (List.replicate 12 0)) ∧ Blk wr w4.heap.size 29 (arr (iter (Suite.fillStep IV) k (List.replicate 12 0))) ∧ OwnB wr w.heap.size (.slice Ak nK ck) K ∧ Below w.heap.size w wr ∧ Below w4.heap.size w4 wr) (fun i _ => 12 - (intOf i).toNat)
  case atStart => exact ⟨0, by omega, rfl, h1, h2, ownK5, hB5, hE⟩
  case round =>
    clear h1 h2 ownK5 hB5 hE
    obtain ⟨k, hk, rfl, b1, b2, ownr, hBr, hE⟩ := hrel
    obtain ⟨s, Hs⟩ : ∃ s, Hd (iter (Suite.fillStep IV) k (List.replicate 12 0) = s) := ⟨_, ⟨rfl⟩⟩
    rw [Hs.out] at b2
    have Hl := hd (show s.length = 12 by rw [← Hs.out, Suite.fillStep_len]; exact List.length_replicate)
    by_cases hlt : k < 12
    · have tk : (k : Int) < 12 := by omega
      obtain ⟨ad, hA, had, hcw⟩ := HR4.out.cell hlt
      subst hA
      have c0 : wr.cell? (ad.add k) = some (.int .u8 (n8 (nth IV k))) := (hE.cell (by rw [block_of_add]; exact had)).trans hcw
      have c1 := b2.arr_cell k (by rw [Hl.out]; exact hlt)
      have f1 := b2.frozen k
      have Ow := hd ownr
      have hne := hd (own_blk_ne ownr.own b2 (by decide))
      clear ownr
      go_wp2
      go_roundw
      case rel => exact ⟨k + 1, by omega, by go_num, b1.far (Nat.ne_of_lt hz4) _, by rw [iter, Hs.out]; exact b2.arr_set _ _, Ow.out.far hne.out _, hBr.setCell (Nat.le_of_lt hz4) _, hE.setCell (Nat.le_refl _) _⟩
      case measure => simp [intOf] <;> omega
    · have ek : k = 12 := by omega
      subst ek
      have tk : ¬ ((12 : Nat) : Int) < 12 := by omega
      have Hfin := hd (show IV = s by
        have h := Suite.fill_all IV
        rw [HIl.out, Hs.out] at h
        exact h.symm)
      rw [← Hfin.out] at b2
      go_upto_region 11 with fail
      refine v_start PR ((fun W => Below w.heap.size w W ∧ OwnB W w.heap.size (.slice Ak nK ck) K ∧ Blk W w4.heap.size 29 (arr IV)), (fun W => Blk W w.heap.size 29 (arr (List.replicate 12 0)))) (by kernel_rfl) (show PW _ wr.drew from ⟨⟨hBr.drew, ownr.drew, b2.drew⟩, b1.drew⟩) ?_
      refine p_take 0 (o := _) rfl (by kernel_rfl) (by kernel_rfl) (by kernel_rfl) (wanted_plain rfl) (.slice Ak nK ck) (fun _ _ _ h => h) (fun W hW => run_move (by rfl) (by simp [Act.eval]) W) ?_
      simp only [Act.put, List.getElem_toArray, List.getElem_cons_succ, List.getElem_cons_zero, List.setIfInBounds_toArray, List.set_cons_zero, List.set_cons_succ]
      refine p_take 1 (o := _) rfl (by kernel_rfl) (by kernel_rfl) (by kernel_rfl) (wanted_plain rfl) (.agg (arr IV)) (fun _ _ _ h => h) (fun W hW => run_load_arr (by rfl) (by simp [Act.eval]) ty12 IV HIl.out (Blk.cells_arr hW.2.2)) ?_
      simp only [Act.put, List.getElem_toArray, List.getElem_cons_succ, List.getElem_cons_zero, List.setIfInBounds_toArray, List.set_cons_zero, List.set_cons_succ]
      refine p_take 2 (o := _) rfl (by kernel_rfl) (by kernel_rfl) (by kernel_rfl) (wanted_plain rfl) (.slice Ak nK ck) (fun _ _ _ h => h) (fun W hW => run_assign (by rfl) (by simp [Act.eval]) W) ?_
      simp only [Act.put, List.getElem_toArray, List.getElem_cons_succ, List.getElem_cons_zero, List.setIfInBounds_toArray, List.set_cons_zero, List.set_cons_succ]
      refine p_one 3 (by kernel_rfl) (fun W hW hX => ?_)
      refine op_skip (o := _) rfl (wanted_plain rfl) (w2 := W.setRow w.heap.size (arr IV)) (run_store_row (by rfl) w.heap.size IV (by simp [Act.eval]) (by simp [Act.eval]) 29 _ hX 12 (by kernel_rfl) HIl.out (by rw [arr_size, List.length_replicate])) ?_
      have hg := grew_setRow (World.grownBy.refl W (some w.heap.size)) (arr IV)
      have hne := own_blk_ne hW.2.1.own hX (by decide)
      refine Next.mk (fun W => Below w.heap.size w W ∧ OwnB W w.heap.size (.slice Ak nK ck) K ∧ Blk W w4.heap.size 29 (arr IV)) (fun W => Blk W w.heap.size 29 (arr IV)) (fun _ h => h) ⟨below_setRow hW.1 (Nat.le_refl _) _, hW.2.1.moved hg hne, hW.2.2.farRow (Nat.ne_of_gt hz4) _⟩ (hX.setRow _) ?_
      simp only [Act.put, List.getElem_toArray, List.getElem_cons_succ, List.getElem_cons_zero, List.setIfInBounds_toArray, List.set_cons_zero, List.set_cons_succ]
      refine p_take 4 (o := _) rfl (by kernel_rfl) (by kernel_rfl) (by kernel_rfl) (wanted_plain rfl) (.int .i64 0) (fun _ _ _ h => h) (fun W hW => run_assign (by rfl) (by simp [Act.eval]) W) ?_
      simp only [Act.put, List.getElem_toArray, List.getElem_cons_succ, List.getElem_cons_zero, List.setIfInBounds_toArray, List.set_cons_zero, List.set_cons_succ]
      refine (show ∀ n, wpAnyV _ _ _ _ _ _ n _ _ _ from fun n => v_done (by kernel_rfl) (fun W hW => ?_) n) _
      go_wp2
      exact ret_keys rfl w.heap.size rfl _ _ rfl rfl ty12 IV HIl.out (Blk.cells_arr hW.2) rfl ⟨_, rfl, hW.1.2.1, hW.1.1⟩
theorem expand_none (h n : Int) (sec lab : List UInt8) (h0 : Sha.size h = 0) : Sched.expand h sec lab [] n = [] ∧ Sched.err h lab [] n = 191 := by
  have hr : Sched.refused h n lab [] := .inl h0
  exact ⟨by unfold Sched.expand; exact if_pos hr, by unfold Sched.err; exact if_pos hr⟩
set_option maxHeartbeats 4000000 in
set_option maxRecDepth 100000 in
theorem rkeys_none (s : UInt16) (k1 : (s == 4865) = false) (k2 : (s == 4866) = false) (k3 : (s == 4867) = false) (A : Option Addr) (m c : Nat) (sec : List UInt8) (w : World) (hr : ReadsB w w.heap.size A m sec) (hm : m ≤ 140737488353000) :
    Calls Tryz.prog 12 #[.int .u16 ((n16 s : Nat) : Int), .slice A m c] w fun e w' => e = .returned (.tuple #[.slice none 0 0, .agg (arr (List.replicate 12 0)), .int .i64 191]) ∧ Below w.heap.size w w' := by
  obtain ⟨Z, HZ⟩ : ∃ x, Hd (List.replicate 12 (0 : UInt8) = x) := ⟨_, ⟨rfl⟩⟩
  have HZl := hd (show Z.length = 12 by rw [← HZ.out]; rfl)
  have HE1 := hd (expand_none 0 0 sec Sched.lKey rfl)
  have HE2 := hd (expand_none 0 12 sec Sched.lIv rfl)
  have bz : Blk (w.alloc (.cells (arr Z) 29)) w.heap.size 29 (arr Z) := Blk.nu rfl
  have hB0 : Below w.heap.size w (w.alloc (.cells (arr Z) 29)) := (Below.refl _ _).alloc (Nat.le_refl _) _
  have Hz := hd (show w.heap.size < (w.alloc (.cells (arr Z) 29)).heap.size by simp)
  have hzr := zero12n
  rw [HZ.out] at hzr ⊢
  have Hzr := hd hzr
  clear hzr
  go_enter Tryz.func12, Tryz.ntmps12
  go_upto_region 6 with (first | (go_at_call 33; refine (rsexpand_any 0 A m c sec Sched.lIv none 0 0 [] 12 w3 ⟨hr.len, (hr.is.below hB3).more hB3.size⟩ hm ⟨rfl, Reads.none_⟩).mono ?_; rintro e w4 ⟨v4, rfl, own4, hB34⟩; rw [HE2.out.1] at own4; rw [HE2.out.2]; obtain ⟨Ai', ci, ei⟩ := own4.slice; rw [List.length_nil] at ei; subst ei; have hB4 := hB3.trans (hB34.mono hB3.size); have bz4 := bz3.below hB34 hz3; have hz4 := Nat.lt_of_lt_of_le hz3 hB34.size) | (go_at_call 33; refine (rsexpand_any 0 A m c sec Sched.lKey none 0 0 [] 0 w2 ⟨hr.len, (hr.is.below hB2).more hB2.size⟩ hm ⟨rfl, Reads.none_⟩).mono ?_; rintro e w3 ⟨v3, rfl, own3, hB23⟩; rw [HE1.out.1] at own3; rw [HE1.out.2]; obtain ⟨Ak, ck, ek⟩ := own3.slice; rw [List.length_nil] at ek; subst ek; have hB3 := hB2.trans (hB23.mono hB2.size); have bz3 := bz2.below hB23 hz2; have hz3 := Nat.lt_of_lt_of_le hz2 hB23.size) | (go_at_call 34; refine (rKeyLen_none s k1 k2 k3 w1).mono ?_; rintro e w2 ⟨rfl, hB12⟩; have hB2 := hB1.trans (hB12.mono hB1.size); have bz2 := bz1.below hB12 hz1; have hz2 := Nat.lt_of_lt_of_le hz1 hB12.size) | (go_at_call 32; refine (rHash_none s k1 k2 k3 _).mono ?_; rintro e w1 ⟨rfl, hB01⟩; have hB1 := hB0.trans (hB01.mono hB0.size); have bz1 := bz.below hB01 Hz.out; have hz1 := Nat.lt_of_lt_of_le Hz.out hB01.size; clear bz hB0) | (refine wpl_alloc rfl 29 rfl _ Hzr.out ?_))
  have hE : Below w4.heap.size w4 (w4.alloc (.cells (arr Z) 29)) := (Below.refl _ _).alloc (Nat.le_refl _) _
  have h2 : Blk (w4.alloc (.cells (arr Z) 29)) w4.heap.size 29 (arr Z) := Blk.nu rfl
  have h1 := bz4.alloc (.cells (arr Z) 29)
  have hB5 := hB4.trans (hE.mono hB4.size)
  refine v_start PR ((fun W => Below w.heap.size w W ∧ Blk W w4.heap.size 29 (arr Z)), (fun W => Blk W w.heap.size 29 (arr Z))) (by kernel_rfl) (show PW _ (World.drew (w4.alloc (.cells (arr Z) 29))) from ⟨⟨hB5.drew, h2.drew⟩, h1.drew⟩) ?_
  refine p_take 0 (o := _) rfl (by kernel_rfl) (by kernel_rfl) (by kernel_rfl) (wanted_plain rfl) (.agg (arr Z)) (fun _ _ _ h => h) (fun W hW => run_load_arr (by rfl) (by simp [Act.eval]) ty12 Z HZl.out (Blk.cells_arr hW.2)) ?_
  simp only [Act.put, List.getElem_toArray, List.getElem_cons_succ, List.getElem_cons_zero, List.setIfInBounds_toArray, List.set_cons_zero, List.set_cons_succ]
  refine p_take 1 (o := _) rfl (by kernel_rfl) (by kernel_rfl) (by kernel_rfl) (wanted_plain rfl) (.slice none 0 0) (fun _ _ _ h => h) (fun W hW => run_assign (by rfl) (by simp [Act.eval]) W) ?_
  simp only [Act.put, List.getElem_toArray, List.getElem_cons_succ, List.getElem_cons_zero, List.setIfInBounds_toArray, List.set_cons_zero, List.set_cons_succ]
  refine p_one 2 (by kernel_rfl) (fun W hW hX => ?_)
  refine op_skip (o := _) rfl (wanted_plain rfl) (w2 := W.setRow w.heap.size (arr Z)) (run_store_row (by rfl) w.heap.size Z (by simp [Act.eval]) (by simp [Act.eval]) 29 _ hX 12 (by kernel_rfl) HZl.out (by rw [arr_size, HZl.out])) ?_
  refine Next.mk (fun W => Below w.heap.size w W ∧ Blk W w4.heap.size 29 (arr Z)) (fun W => Blk W w.heap.size 29 (arr Z)) (fun _ h => h) ⟨below_setRow hW.1 (Nat.le_refl _) _, hW.2.farRow (Nat.ne_of_gt hz4) _⟩ (hX.setRow _) ?_
  simp only [Act.put, List.getElem_toArray, List.getElem_cons_succ, List.getElem_cons_zero, List.setIfInBounds_toArray, List.set_cons_zero, List.set_cons_succ]
  refine p_take 3 (o := _) rfl (by kernel_rfl) (by kernel_rfl) (by kernel_rfl) (wanted_plain rfl) (.int .i64 191) (fun _ _ _ h => h) (fun W hW => run_assign (by rfl) (by simp [Act.eval]) W) ?_
  simp only [Act.put, List.getElem_toArray, List.getElem_cons_succ, List.getElem_cons_zero, List.setIfInBounds_toArray, List.set_cons_zero, List.set_cons_succ]
  refine (show ∀ n, wpAnyV _ _ _ _ _ _ n _ _ _ from fun n => v_done (by kernel_rfl) (fun W hW => ?_) n) _
  go_wp2
  exact ret_keys rfl w.heap.size rfl _ _ rfl rfl ty12 Z HZl.out (Blk.cells_arr hW.2) rfl ⟨rfl, hW.1.1⟩
end Go.Proofs.YtbcboldepghgpaaGreatDoor
