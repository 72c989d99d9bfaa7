/-
  The walk of record's opened.
-/
import Derived.Test.YtbcboldepghgpaaRecI
set_option linter.unusedVariables false
set_option linter.unusedSimpArgs false
set_option maxRecDepth 100000
namespace Go.Proofs.Ytbcboldepghgpaa
open Go.RowKit
theorem run_slice_tom {P : Program} {w : World} {o : Oper} {ρ : Operand → Value} {t e : TypeId} {x y z : Operand} (ho : o.op = .slice t x none (some y) (some z)) (ht : P.underlying t = some (.slice e)) {m : Nat} (hs : (P.info? e).map (·.size) = some m) (D : Option Addr) (k d n : Nat)
    (hx : ρ x = .slice D k d) (hy : ρ y = .int .i64 (n : Int)) (hz : ρ z = .int .i64 (n : Int)) (hn : n ≤ d) : (execOp ρ o).run P w = .ok (.value (.slice D n n)) w := by
  have h2 : (n : Int) ≤ (d : Int) := by omega
  have h3 : (0 : Int) ≤ (n : Int) := by omega
  unfold execOp
  simp only [ho, hx, hy, hz]
  simp [go_sem, Instr.sliceAt, Instr.slice, Instr.sliceBounds, Instr.sliceBound, run_underlying ht, run_sizeOf hs, hy, hz, h2, h3, hn, asIntOf, Addr.add_zero']
theorem nth_app_left (l m : List UInt8) (i : Nat) (h : i < l.length) : nth (l ++ m) i = nth l i := by
  unfold nth
  rw [List.getD_eq_getElem?_getD, List.getD_eq_getElem?_getD, List.getElem?_append_left h]
theorem nth_app_right (l m : List UInt8) (i : Nat) : nth (l ++ m) (l.length + i) = nth m i := by
  unfold nth
  rw [List.getD_eq_getElem?_getD, List.getD_eq_getElem?_getD, List.getElem?_append_right (Nat.le_add_right _ _), Nat.add_sub_cancel_left]
theorem nth_zeros (R i : Nat) : nth (List.replicate R (0 : UInt8)) i = 0 := by
  unfold nth
  rw [List.getD_eq_getElem?_getD, List.getElem?_replicate]
  split <;> rfl
/-- What a reader's walk holds of it: itself, its key. -/
structure Rec.RdAt (W : World) (gr gl : Nat) (H : Value) (skip : Int) (quiet : Bool) (s : UInt16) (A : Option Addr) (c : Nat) (key iv : List UInt8) (seq : UInt64) : Prop where
  br : Blk W gr 84 (Rec.rdc (.pointer (some ⟨gl, 0, none⟩)) H skip quiet 0)
  lk : Rec.LkK W gl s A c key iv seq
theorem Rec.RdAt.next {W W' : World} {gr gl : Nat} {H : Value} {skip : Int} {quiet : Bool} {s : UInt16} {A : Option Addr} {c : Nat} {key iv : List UInt8} {seq : UInt64} (h : Rec.RdAt W gr gl H skip quiet s A c key iv seq) (hb : Below W.heap.size W W') : Rec.RdAt W' gr gl H skip quiet s A c key iv seq :=
  ⟨h.br.below hb h.br.lt, h.lk.next hb⟩
theorem results_tmp4 {fn : Func} {t u v x : Tmp} (h : fn.results = #[.tmp t, .tmp u, .tmp v, .tmp x]) (tmps : Array Value) (P : Program) (w : World) :
    (results fn tmps).run P w = .ok (.tuple #[tmps.getD t undef, tmps.getD u undef, tmps.getD v undef, tmps.getD x undef]) w := by
  simp [results, h]
set_option maxHeartbeats 8000000 in
set_option maxRecDepth 100000 in
theorem Rec.opened_any (gr gl : Nat) (H : Value) (skip : Int) (quiet : Bool) (s : UInt16) (Ak : Option Addr) (ck : Nat) (key iv : List UInt8) (seq : UInt64) (A : Option Addr) (n R c : Nat) (b : List UInt8) (t : UInt8) (w : World)
    (hrd : Rec.RdAt w gr gl H skip quiet s Ak ck key iv seq) (hseq : (seq + 1 == 0) = false) (ht : ReadsB w w.heap.size A (n + 1 + R) (b ++ [t] ++ List.replicate R 0)) (hc : n + 1 + R ≤ c) (hn : b.length = n) (hn2 : n ≤ 16384) (hR : R ≤ 255) (ht0 : (t == 0) = false)
    (htc : t = 23 ∨ (0 < n ∧ (t = 21 ∨ t = 22))) (hfar : ∀ ad, A = some ad → ad.block ≠ gr ∧ ad.block ≠ gl) :
    Calls Try.prog 44 #[.pointer (some ⟨gr, 0, none⟩), .slice A (n + 1 + R) c] w fun e w' => e = .returned (.tuple #[.int .u8 ((n8 t : Nat) : Int), .slice A n n, .bool true, .int .i64 0]) ∧ Rec.RdAt w' gr gl H 0 quiet s Ak ck key iv (seq + 1) ∧ Rec.Mv w w' gr (some gl) ∧ w'.heap.size = w.heap.size := by
  have Hc := hd htc
  have Hn := hd hn
  have Hseq := hd hseq
  clear htc
  have hne : gr ≠ gl := hrd.br.ne_ hrd.lk.blk (by decide)
  have hne' : gl ≠ gr := fun e => hne e.symm
  have c2 : w.cell? ⟨gr, 2, none⟩ = some (.int .i64 skip) := hrd.br.cell 2
  have f2 := hrd.br.frozen 2
  have c0 : w.cell? ⟨gr, 0, none⟩ = some (.pointer (some ⟨gl, 0, none⟩)) := hrd.br.cell 0
  have c14 := hrd.lk.c14
  have f14 := hrd.lk.blk.frozen 14
  have hW : Rec.RdAt ((w.setCell ⟨gr, 2, none⟩ (.int .i64 0)).setCell ⟨gl, 14, none⟩ (.int .u64 ((n64 (seq + 1) : Nat) : Int))) gr gl H 0 quiet s Ak ck key iv (seq + 1) := by
    have b1 : Blk (w.setCell ⟨gr, 2, none⟩ (.int .i64 0)) gr 84 (Rec.rdc (.pointer (some ⟨gl, 0, none⟩)) H 0 quiet 0) := hrd.br.set_ 2 _
    have l1 : Rec.LkK (w.setCell ⟨gr, 2, none⟩ (.int .i64 0)) gl s Ak ck key iv seq := ⟨hrd.lk.blk.far (p := ⟨gr, 2, none⟩) hne' _, hrd.lk.own.far (own_blk_ne hrd.lk.own.own hrd.br (by decide)) _, hrd.lk.iv12⟩
    exact ⟨b1.far (p := ⟨gl, 14, none⟩) hne _, l1.up _⟩
  have hM : Rec.Mv w ((w.setCell ⟨gr, 2, none⟩ (.int .i64 0)).setCell ⟨gl, 14, none⟩ (.int .u64 ((n64 (seq + 1) : Nat) : Int))) gr (some gl) :=
    ⟨rfl, rfl, rfl, by simp, fun i hi h1 h2 => (Below.heap_setCell _ ⟨gl, 14, none⟩ _ i (fun e => h2 (by rw [e]))).trans (Below.heap_setCell w ⟨gr, 2, none⟩ _ i h1)⟩
  obtain ⟨W1, HW1⟩ : ∃ x, Hd ((w.setCell ⟨gr, 2, none⟩ (.int .i64 0)).setCell ⟨gl, 14, none⟩ (.int .u64 ((n64 (seq + 1) : Nat) : Int)) = x) := ⟨_, ⟨rfl⟩⟩
  have hsz : W1.heap.size = w.heap.size := by rw [← HW1.out]; simp
  go_enter Try.func44, Try.ntmps44
  go_wp2
  rw [HW1.out] at hW hM ⊢
  clear c2 f2 c0 c14 f14 HW1
  obtain ⟨tx, Htx⟩ : ∃ x, Hd (b ++ [t] ++ List.replicate R 0 = x) := ⟨_, ⟨rfl⟩⟩
  have Hlt := hd (show nth tx n = t by
    rw [← Htx.out, List.append_assoc, ← Hn.out]
    have := nth_app_right b ([t] ++ List.replicate R 0) 0
    rw [Nat.add_zero] at this
    rw [this]; rfl)
  have Hlz := hd (show ∀ r, nth tx (n + 1 + r) = 0 from fun r => by
    have hl : (b ++ [t]).length = n + 1 := by rw [List.length_append, Hn.out]; rfl
    rw [← Htx.out, ← hl, nth_app_right, nth_zeros])
  rw [Htx.out] at ht
  have hcell := hd (show ∀ i, i < n + 1 + R → ∃ ad, A = some ad ∧ W1.cell? (ad.add i) = some (.int .u8 (n8 (nth tx i))) from fun i hi => by
    obtain ⟨ad, hA, had, hcw⟩ := ht.cell (k := i) hi
    obtain ⟨h1, h2⟩ := hfar ad hA
    exact ⟨ad, hA, by rw [← hcw]; exact World.cell?_of_block (hM.block _ (by rw [block_of_add]; exact had) (by rw [block_of_add]; exact h1) (by rw [block_of_add]; intro e; injection e with e; exact h2 e))⟩)
  clear hrd ht hfar
  go_loopw [1] (fun v wr => ∃ r : Nat, r ≤ R ∧ v = .slice A (n + 1 + r) c ∧ wr = W1) (fun v _ => Cha.lenS v)
  case atStart => exact ⟨R, Nat.le_refl _, rfl, rfl⟩
  case round =>
    obtain ⟨r, hr, rfl, rfl⟩ := hrel
    obtain ⟨m1, e1, v1⟩ : ∃ m : Nat, ((n + 1 + r : Nat) : Int) - 1 = (m : Int) ∧ m = n + r := ⟨n + r, by omega, rfl⟩
    have i1 : IntKind.i64.wrap (m1 : Int) = (m1 : Int) := IntWalk.i64_in _ (by omega)
    have t0 : (0 : Int) < ((n + 1 + r : Nat) : Int) := by omega
    have t1 : (m1 : Int) < ((n + 1 + r : Nat) : Int) := by omega
    obtain ⟨ad, hA, hcw⟩ := hcell.out m1 (by omega)
    obtain ⟨lr, Hlr⟩ : ∃ x, Hd (n + 1 + r = x) := ⟨_, ⟨rfl⟩⟩
    rw [Hlr.out] at e1 t0 t1 ⊢
    have Hm1 := hd v1
    clear v1
    by_cases h0 : r = 0
    · have Hr0 := hd h0
      have hbyte : nth tx m1 = t := by rw [Hm1.out, h0]; exact Hlt.out
      rw [hbyte] at hcw
      clear hbyte h0
      subst hA
      have Hlr2 := hd (show lr = n + 1 by rw [← Hlr.out, Hr0.out])
      have Hmn := hd (show m1 = n by rw [Hm1.out, Hr0.out]; rfl)
      have z0 : ¬ (lr : Int) = 0 := by rw [Hlr2.out]; omega
      have t5 : ¬ (16384 : Int) < (m1 : Int) := by have := Hmn.out; omega
      have hlc : m1 ≤ c := by have := Hmn.out; omega
      rcases Hc.out with h | ⟨hn0, h | h⟩
      · have k23 : (t == 23) = true := by rw [h]; rfl
        clear h
        have hG : Rec.RdAt wr.drew gr gl H 0 quiet s Ak ck key iv (seq + 1) ∧ Rec.Mv w wr.drew gr (some gl) ∧ wr.drew.heap.size = w.heap.size := ⟨hW.next (Below.refl _ _).drew, ⟨hM.os, hM.tape, hM.output, hM.size, hM.block⟩, hsz⟩
        go_wp2_with fail
        refine p_start (fun W => Rec.RdAt W gr gl H 0 quiet s Ak ck key iv (seq + 1) ∧ Rec.Mv w W gr (some gl) ∧ W.heap.size = w.heap.size) (by kernel_rfl) hG ?_
        refine p_take 0 (o := _) rfl (by kernel_rfl) (by kernel_rfl) (by kernel_rfl) (wanted_plain rfl) (.int .u8 ((n8 t : Nat) : Int)) (fun _ _ _ h => h) (fun W hW => run_move (by rfl) (by simp [Act.eval]) W) ?_
        simp only [Act.put, List.getElem_toArray, List.getElem_cons_succ, List.getElem_cons_zero, List.setIfInBounds_toArray, List.set_cons_zero, List.set_cons_succ]
        refine p_take 1 (o := _) rfl (by kernel_rfl) (by kernel_rfl) (by kernel_rfl) (wanted_plain rfl) (.slice (some ad) lr c) (fun _ _ _ h => h) (fun W hW => run_move (by rfl) (by simp [Act.eval]) W) ?_
        simp only [Act.put, List.getElem_toArray, List.getElem_cons_succ, List.getElem_cons_zero, List.setIfInBounds_toArray, List.set_cons_zero, List.set_cons_succ]
        refine p_take 2 (o := _) rfl (by kernel_rfl) (by kernel_rfl) (by kernel_rfl) (wanted_plain rfl) (.int .i64 (m1 : Int)) (fun _ _ _ h => h) (fun W hW => run_move (by rfl) (by simp [Act.eval]) W) ?_
        simp only [Act.put, List.getElem_toArray, List.getElem_cons_succ, List.getElem_cons_zero, List.setIfInBounds_toArray, List.set_cons_zero, List.set_cons_succ]
        refine p_take 3 (o := _) rfl (by kernel_rfl) (by kernel_rfl) (by kernel_rfl) (wanted_plain rfl) (.int .i64 (m1 : Int)) (fun _ _ _ h => h) (fun W hW => run_move (by rfl) (by simp [Act.eval]) W) ?_
        simp only [Act.put, List.getElem_toArray, List.getElem_cons_succ, List.getElem_cons_zero, List.setIfInBounds_toArray, List.set_cons_zero, List.set_cons_succ]
        refine p_take 4 (o := _) rfl (by kernel_rfl) (by kernel_rfl) (by kernel_rfl) (wanted_plain rfl) (.slice (some ad) m1 m1) (fun _ _ _ h => h) (fun W hW => run_slice_tom (by rfl) Try.underlying24 u8_cell1 (some ad) lr c m1 (by simp [Act.eval]) (by simp [Act.eval]) (by simp [Act.eval]) hlc) ?_
        simp only [Act.put, List.getElem_toArray, List.getElem_cons_succ, List.getElem_cons_zero, List.setIfInBounds_toArray, List.set_cons_zero, List.set_cons_succ]
        refine p_take 5 (o := _) rfl (by kernel_rfl) (by kernel_rfl) (by kernel_rfl) (wanted_plain rfl) (.int .u8 ((n8 t : Nat) : Int)) (fun _ _ _ h => h) (fun W hW => run_assign (by rfl) (by simp [Act.eval]) W) ?_
        simp only [Act.put, List.getElem_toArray, List.getElem_cons_succ, List.getElem_cons_zero, List.setIfInBounds_toArray, List.set_cons_zero, List.set_cons_succ]
        refine p_take 6 (o := _) rfl (by kernel_rfl) (by kernel_rfl) (by kernel_rfl) (wanted_plain rfl) (.slice (some ad) m1 m1) (fun _ _ _ h => h) (fun W hW => run_assign (by rfl) (by simp [Act.eval]) W) ?_
        simp only [Act.put, List.getElem_toArray, List.getElem_cons_succ, List.getElem_cons_zero, List.setIfInBounds_toArray, List.set_cons_zero, List.set_cons_succ]
        refine p_take 7 (o := _) rfl (by kernel_rfl) (by kernel_rfl) (by kernel_rfl) (wanted_plain rfl) (.bool true) (fun _ _ _ h => h) (fun W hW => run_assign (by rfl) (by simp [Act.eval]) W) ?_
        simp only [Act.put, List.getElem_toArray, List.getElem_cons_succ, List.getElem_cons_zero, List.setIfInBounds_toArray, List.set_cons_zero, List.set_cons_succ]
        refine p_take 8 (o := _) rfl (by kernel_rfl) (by kernel_rfl) (by kernel_rfl) (wanted_plain rfl) (.int .i64 0) (fun _ _ _ h => h) (fun W hW => run_assign (by rfl) (by simp [Act.eval]) W) ?_
        simp only [Act.put, List.getElem_toArray, List.getElem_cons_succ, List.getElem_cons_zero, List.setIfInBounds_toArray, List.set_cons_zero, List.set_cons_succ]
        refine (show ∀ z0, wpAnyV _ _ _ _ _ _ z0 _ _ _ from fun z0 => p_done (by kernel_rfl) (fun W5 H5 => ?_) z0) _
        go_wp2
        try simp only [Exit.inBlock, Exit.then]
        refine bodyPost_ret (results_tmp4 rfl _ _ _) rfl ?_
        exact ⟨by rw [Hmn.out]; rfl, H5⟩
      · have k23 : (t == 23) = false := by rw [h]; rfl
        have k21 : (t == 21) = true := by rw [h]; rfl
        have tn : (0 : Int) < (m1 : Int) := by have := Hmn.out; omega
        clear h
        have hG : Rec.RdAt wr.drew gr gl H 0 quiet s Ak ck key iv (seq + 1) ∧ Rec.Mv w wr.drew gr (some gl) ∧ wr.drew.heap.size = w.heap.size := ⟨hW.next (Below.refl _ _).drew, ⟨hM.os, hM.tape, hM.output, hM.size, hM.block⟩, hsz⟩
        go_wp2_with fail
        refine p_start (fun W => Rec.RdAt W gr gl H 0 quiet s Ak ck key iv (seq + 1) ∧ Rec.Mv w W gr (some gl) ∧ W.heap.size = w.heap.size) (by kernel_rfl) hG ?_
        refine p_take 0 (o := _) rfl (by kernel_rfl) (by kernel_rfl) (by kernel_rfl) (wanted_plain rfl) (.int .u8 ((n8 t : Nat) : Int)) (fun _ _ _ h => h) (fun W hW => run_move (by rfl) (by simp [Act.eval]) W) ?_
        simp only [Act.put, List.getElem_toArray, List.getElem_cons_succ, List.getElem_cons_zero, List.setIfInBounds_toArray, List.set_cons_zero, List.set_cons_succ]
        refine p_take 1 (o := _) rfl (by kernel_rfl) (by kernel_rfl) (by kernel_rfl) (wanted_plain rfl) (.slice (some ad) lr c) (fun _ _ _ h => h) (fun W hW => run_move (by rfl) (by simp [Act.eval]) W) ?_
        simp only [Act.put, List.getElem_toArray, List.getElem_cons_succ, List.getElem_cons_zero, List.setIfInBounds_toArray, List.set_cons_zero, List.set_cons_succ]
        refine p_take 2 (o := _) rfl (by kernel_rfl) (by kernel_rfl) (by kernel_rfl) (wanted_plain rfl) (.int .i64 (m1 : Int)) (fun _ _ _ h => h) (fun W hW => run_move (by rfl) (by simp [Act.eval]) W) ?_
        simp only [Act.put, List.getElem_toArray, List.getElem_cons_succ, List.getElem_cons_zero, List.setIfInBounds_toArray, List.set_cons_zero, List.set_cons_succ]
        refine p_take 3 (o := _) rfl (by kernel_rfl) (by kernel_rfl) (by kernel_rfl) (wanted_plain rfl) (.int .i64 (m1 : Int)) (fun _ _ _ h => h) (fun W hW => run_move (by rfl) (by simp [Act.eval]) W) ?_
        simp only [Act.put, List.getElem_toArray, List.getElem_cons_succ, List.getElem_cons_zero, List.setIfInBounds_toArray, List.set_cons_zero, List.set_cons_succ]
        refine p_take 4 (o := _) rfl (by kernel_rfl) (by kernel_rfl) (by kernel_rfl) (wanted_plain rfl) (.slice (some ad) m1 m1) (fun _ _ _ h => h) (fun W hW => run_slice_tom (by rfl) Try.underlying24 u8_cell1 (some ad) lr c m1 (by simp [Act.eval]) (by simp [Act.eval]) (by simp [Act.eval]) hlc) ?_
        simp only [Act.put, List.getElem_toArray, List.getElem_cons_succ, List.getElem_cons_zero, List.setIfInBounds_toArray, List.set_cons_zero, List.set_cons_succ]
        refine p_take 5 (o := _) rfl (by kernel_rfl) (by kernel_rfl) (by kernel_rfl) (wanted_plain rfl) (.int .u8 ((n8 t : Nat) : Int)) (fun _ _ _ h => h) (fun W hW => run_assign (by rfl) (by simp [Act.eval]) W) ?_
        simp only [Act.put, List.getElem_toArray, List.getElem_cons_succ, List.getElem_cons_zero, List.setIfInBounds_toArray, List.set_cons_zero, List.set_cons_succ]
        refine p_take 6 (o := _) rfl (by kernel_rfl) (by kernel_rfl) (by kernel_rfl) (wanted_plain rfl) (.slice (some ad) m1 m1) (fun _ _ _ h => h) (fun W hW => run_assign (by rfl) (by simp [Act.eval]) W) ?_
        simp only [Act.put, List.getElem_toArray, List.getElem_cons_succ, List.getElem_cons_zero, List.setIfInBounds_toArray, List.set_cons_zero, List.set_cons_succ]
        refine p_take 7 (o := _) rfl (by kernel_rfl) (by kernel_rfl) (by kernel_rfl) (wanted_plain rfl) (.bool true) (fun _ _ _ h => h) (fun W hW => run_assign (by rfl) (by simp [Act.eval]) W) ?_
        simp only [Act.put, List.getElem_toArray, List.getElem_cons_succ, List.getElem_cons_zero, List.setIfInBounds_toArray, List.set_cons_zero, List.set_cons_succ]
        refine p_take 8 (o := _) rfl (by kernel_rfl) (by kernel_rfl) (by kernel_rfl) (wanted_plain rfl) (.int .i64 0) (fun _ _ _ h => h) (fun W hW => run_assign (by rfl) (by simp [Act.eval]) W) ?_
        simp only [Act.put, List.getElem_toArray, List.getElem_cons_succ, List.getElem_cons_zero, List.setIfInBounds_toArray, List.set_cons_zero, List.set_cons_succ]
        refine (show ∀ z0, wpAnyV _ _ _ _ _ _ z0 _ _ _ from fun z0 => p_done (by kernel_rfl) (fun W5 H5 => ?_) z0) _
        go_wp2
        try simp only [Exit.inBlock, Exit.then]
        refine bodyPost_ret (results_tmp4 rfl _ _ _) rfl ?_
        exact ⟨by rw [Hmn.out]; rfl, H5⟩
      · have k23 : (t == 23) = false := by rw [h]; rfl
        have k21 : (t == 21) = false := by rw [h]; rfl
        have k22 : (t == 22) = true := by rw [h]; rfl
        have tn : (0 : Int) < (m1 : Int) := by have := Hmn.out; omega
        clear h
        have hG : Rec.RdAt wr.drew gr gl H 0 quiet s Ak ck key iv (seq + 1) ∧ Rec.Mv w wr.drew gr (some gl) ∧ wr.drew.heap.size = w.heap.size := ⟨hW.next (Below.refl _ _).drew, ⟨hM.os, hM.tape, hM.output, hM.size, hM.block⟩, hsz⟩
        go_wp2_with fail
        refine p_start (fun W => Rec.RdAt W gr gl H 0 quiet s Ak ck key iv (seq + 1) ∧ Rec.Mv w W gr (some gl) ∧ W.heap.size = w.heap.size) (by kernel_rfl) hG ?_
        refine p_take 0 (o := _) rfl (by kernel_rfl) (by kernel_rfl) (by kernel_rfl) (wanted_plain rfl) (.int .u8 ((n8 t : Nat) : Int)) (fun _ _ _ h => h) (fun W hW => run_move (by rfl) (by simp [Act.eval]) W) ?_
        simp only [Act.put, List.getElem_toArray, List.getElem_cons_succ, List.getElem_cons_zero, List.setIfInBounds_toArray, List.set_cons_zero, List.set_cons_succ]
        refine p_take 1 (o := _) rfl (by kernel_rfl) (by kernel_rfl) (by kernel_rfl) (wanted_plain rfl) (.slice (some ad) lr c) (fun _ _ _ h => h) (fun W hW => run_move (by rfl) (by simp [Act.eval]) W) ?_
        simp only [Act.put, List.getElem_toArray, List.getElem_cons_succ, List.getElem_cons_zero, List.setIfInBounds_toArray, List.set_cons_zero, List.set_cons_succ]
        refine p_take 2 (o := _) rfl (by kernel_rfl) (by kernel_rfl) (by kernel_rfl) (wanted_plain rfl) (.int .i64 (m1 : Int)) (fun _ _ _ h => h) (fun W hW => run_move (by rfl) (by simp [Act.eval]) W) ?_
        simp only [Act.put, List.getElem_toArray, List.getElem_cons_succ, List.getElem_cons_zero, List.setIfInBounds_toArray, List.set_cons_zero, List.set_cons_succ]
        refine p_take 3 (o := _) rfl (by kernel_rfl) (by kernel_rfl) (by kernel_rfl) (wanted_plain rfl) (.int .i64 (m1 : Int)) (fun _ _ _ h => h) (fun W hW => run_move (by rfl) (by simp [Act.eval]) W) ?_
        simp only [Act.put, List.getElem_toArray, List.getElem_cons_succ, List.getElem_cons_zero, List.setIfInBounds_toArray, List.set_cons_zero, List.set_cons_succ]
        refine p_take 4 (o := _) rfl (by kernel_rfl) (by kernel_rfl) (by kernel_rfl) (wanted_plain rfl) (.slice (some ad) m1 m1) (fun _ _ _ h => h) (fun W hW => run_slice_tom (by rfl) Try.underlying24 u8_cell1 (some ad) lr c m1 (by simp [Act.eval]) (by simp [Act.eval]) (by simp [Act.eval]) hlc) ?_
        simp only [Act.put, List.getElem_toArray, List.getElem_cons_succ, List.getElem_cons_zero, List.setIfInBounds_toArray, List.set_cons_zero, List.set_cons_succ]
        refine p_take 5 (o := _) rfl (by kernel_rfl) (by kernel_rfl) (by kernel_rfl) (wanted_plain rfl) (.int .u8 ((n8 t : Nat) : Int)) (fun _ _ _ h => h) (fun W hW => run_assign (by rfl) (by simp [Act.eval]) W) ?_
        simp only [Act.put, List.getElem_toArray, List.getElem_cons_succ, List.getElem_cons_zero, List.setIfInBounds_toArray, List.set_cons_zero, List.set_cons_succ]
        refine p_take 6 (o := _) rfl (by kernel_rfl) (by kernel_rfl) (by kernel_rfl) (wanted_plain rfl) (.slice (some ad) m1 m1) (fun _ _ _ h => h) (fun W hW => run_assign (by rfl) (by simp [Act.eval]) W) ?_
        simp only [Act.put, List.getElem_toArray, List.getElem_cons_succ, List.getElem_cons_zero, List.setIfInBounds_toArray, List.set_cons_zero, List.set_cons_succ]
        refine p_take 7 (o := _) rfl (by kernel_rfl) (by kernel_rfl) (by kernel_rfl) (wanted_plain rfl) (.bool true) (fun _ _ _ h => h) (fun W hW => run_assign (by rfl) (by simp [Act.eval]) W) ?_
        simp only [Act.put, List.getElem_toArray, List.getElem_cons_succ, List.getElem_cons_zero, List.setIfInBounds_toArray, List.set_cons_zero, List.set_cons_succ]
        refine p_take 8 (o := _) rfl (by kernel_rfl) (by kernel_rfl) (by kernel_rfl) (wanted_plain rfl) (.int .i64 0) (fun _ _ _ h => h) (fun W hW => run_assign (by rfl) (by simp [Act.eval]) W) ?_
        simp only [Act.put, List.getElem_toArray, List.getElem_cons_succ, List.getElem_cons_zero, List.setIfInBounds_toArray, List.set_cons_zero, List.set_cons_succ]
        refine (show ∀ z0, wpAnyV _ _ _ _ _ _ z0 _ _ _ from fun z0 => p_done (by kernel_rfl) (fun W5 H5 => ?_) z0) _
        go_wp2
        try simp only [Exit.inBlock, Exit.then]
        refine bodyPost_ret (results_tmp4 rfl _ _ _) rfl ?_
        exact ⟨by rw [Hmn.out]; rfl, H5⟩
    · have hbyte : nth tx m1 = 0 := by rw [Hm1.out, show n + r = n + 1 + (r - 1) by omega]; exact Hlz.out _
      rw [hbyte] at hcw
      clear hbyte
      have hlc : m1 ≤ c := by have := Hm1.out; omega
      have hA2 := hA
      subst hA
      go_wp2_with (first
        | (refine wpl_run (o := ⟨some 57, _, _, _, _, _⟩) (wanted_plain rfl) (.slice (some ad) m1 c) (run_slice_to (by rfl) Try.underlying24 u8_cell1 (some ad) lr c m1 (by simp [Act.eval, Act.put]) (by simp [Act.eval, Act.put]) hlc) ?_))
      go_roundw
      case rel => exact ⟨r - 1, by omega, by rw [Hm1.out, show n + 1 + (r - 1) = n + r by omega], trivial⟩
      case measure => simp only [Cha.lenS]; have := Hm1.out; have := Hlr.out; simp; omega
end Go.Proofs.Ytbcboldepghgpaa
