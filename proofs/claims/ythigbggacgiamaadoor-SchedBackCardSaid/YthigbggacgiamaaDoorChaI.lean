/-
  The walk of chacha's Poly.
-/
import Derived.Test.YthigbggacgiamaaDoorChaP
import Derived.Test.YthigbggacgiamaaDoorGcmC
import Derived.Test.YthigbggacgiamaaDoorJa
set_option linter.unusedVariables false
set_option linter.unusedSimpArgs false
set_option maxRecDepth 100000
namespace Go.Proofs.YthigbggacgiamaaDoor
open Go.RowKit
namespace Cha
theorem zero24 : (Tryd.prog.info? 151).bind (·.zero) = some (.agg (arr (List.replicate 24 0))) := by kernel_rfl
theorem zero16 : (Tryd.prog.info? 87).bind (·.zero) = some (.agg (arr (List.replicate 16 0))) := by kernel_rfl
theorem zero2 : (Tryd.prog.info? 148).bind (·.zero) = some (.agg #[.int .u64 0, .int .u64 0]) := by kernel_rfl
theorem agg16 : AggT Tryd.prog 87 16 := ⟨by kernel_rfl, by kernel_rfl⟩
theorem agg2 : AggT Tryd.prog 148 2 := ⟨by kernel_rfl, by kernel_rfl⟩
theorem built2 (a b : UInt64) : Tryd.prog.built 148 [(0, .int .u64 ((n64 a : Nat) : Int)), (1, .int .u64 ((n64 b : Nat) : Int))] = some (cells2 a b) := by kernel_rfl
def lenS : Value → Nat | .slice _ n _ => n | _ => 0
section
variable {P : Program} {w : World} {o : Oper} {ρ : Operand → Value} {x y : Operand} {t rt : TypeId}
theorem run_conv64 (ho : o.op = .convert 32 31 x) (v : UInt32) (hx : ρ x = .int .u32 ((n32 v : Nat) : Int)) : (execOp ρ o).run Tryd.prog w = .ok (.value (.int .u64 ((n64 v.toUInt64 : Nat) : Int))) w := by
  unfold execOp
  simp only [ho, hx]
  simp [go_sem, Tryd.underlying32, Tryd.underlying31]
theorem run_shl32 (ho : o.op = .binOp .shl t x y rt) (v : UInt64) (hx : ρ x = .int .u64 ((n64 v : Nat) : Int)) (hy : ρ y = .int .u64 32) : (execOp ρ o).run P w = .ok (.value (.int .u64 ((n64 (v <<< 32) : Nat) : Int))) w := by
  unfold execOp
  simp only [ho, hx, hy]
  simp [go_sem]
theorem run_or64 (ho : o.op = .binOp .or t x y rt) (v u : UInt64) (hx : ρ x = .int .u64 ((n64 v : Nat) : Int)) (hy : ρ y = .int .u64 ((n64 u : Nat) : Int)) : (execOp ρ o).run P w = .ok (.value (.int .u64 ((n64 (v ||| u) : Nat) : Int))) w := by
  unfold execOp
  simp only [ho, hx, hy]
  simp [go_sem]
theorem run_load_u32 (ad : Addr) (v : Value) (w : World) (h : w.cell? ad = some v) : (loadVar 32 ad).run Tryd.prog w = .ok v w := by
  simp [loadVar, go_sem, h]
theorem run_load3 (ho : o.op = .load 150 x) (g : Nat) (p : P3) (hx : ρ x = .pointer (some ⟨g, 0, none⟩)) (t : TypeId) (hb : Blk w g t p.cells) : (execOp ρ o).run Tryd.prog w = .ok (.value (.agg p.cells)) w :=
  run_execOp_load ho hx (run_loadVar_cells agg3 ⟨g, 0, none⟩ p.cells.toList rfl hb.cells.is)
theorem run_load2 (ho : o.op = .load 148 x) (g : Nat) (a b : UInt64) (hx : ρ x = .pointer (some ⟨g, 0, none⟩)) (t : TypeId) (hb : Blk w g t (cells2 a b)) : (execOp ρ o).run Tryd.prog w = .ok (.value (.agg (cells2 a b))) w :=
  run_execOp_load ho hx (run_loadVar_cells agg2 ⟨g, 0, none⟩ (cells2 a b).toList rfl hb.cells.is)
theorem run_store3 (ho : o.op = .store 150 x y) (g : Nat) (p : P3) (hx : ρ x = .pointer (some ⟨g, 0, none⟩)) (hy : ρ y = .agg p.cells) (t : TypeId) (cs : Array Value) (hb : Blk w g t cs) (hn : cs.size = 3) : (execOp ρ o).run Tryd.prog w = .ok .skip (w.setRow g p.cells) := by
  have hr := run_storeVar_at (P := Tryd.prog) (ty := 150) hb 0 p.cells.toList agg3.size (by show 0 + 3 ≤ cs.size; omega) (by intro v hv; simp [P3.cells] at hv; rcases hv with rfl | rfl | rfl <;> rfl)
  rw [splice_all _ _ (by show 3 = cs.size; omega)] at hr
  unfold execOp
  simp only [ho, hx, hy, Instr.storeAt, Instr.sureAddr, Sem.run_bind, Sem.run_pure, Result.andThen_ok]
  rw [show (Value.agg p.cells) = .agg p.cells.toList.toArray from rfl, hr]
  rfl
end
section
variable {w : World} {ops : Array Oper} {rest : List Oper} {o : Oper} {a : Act} {Q : Exit → Act → World → Prop}
theorem wpl_store2 (hgd : o.guard = none) (x y : Operand) (ho : o.op = .store 148 x y) (g : Nat) (p q : UInt64) (hx : a.eval x = .pointer (some ⟨g, 0, none⟩)) (hy : a.eval y = .agg (cells2 p q)) (t : TypeId) (cs : Array Value) (hb : Blk w g t cs) (hn : cs.size = 2)
    (h : wpList Tryd.prog ops Q rest (a.put o.dst undef) (w.setRow g (cells2 p q))) : wpList Tryd.prog ops Q (o :: rest) a w := by
  refine wpl_store hgd _ x y ho g 0 (cells2 p q).toList hx hy t cs hb agg2.size (by show 0 + 2 ≤ cs.size; omega) (by intro v hv; simp [cells2] at hv; rcases hv with rfl | rfl <;> rfl) ?_
  rw [splice_all _ _ (by show 2 = cs.size; omega)]
  exact h
/-- Bytes copied to a longer block's beginning. -/
theorem wpl_copyP (hgd : o.guard = none) (d s : Operand) (ho : o.op = .call { callee := .builtin .copy, args := #[d, s], argTypes := #[30, 30] })
    (g : Nat) (t : TypeId) (dst : List UInt8) (k kc : Nat) (hd : a.eval d = .slice (some ⟨g, 0, none⟩) k kc) (hdl : k ≤ dst.length) (hb : Blk w g t (arr dst)) (B : Nat) (A : Option Addr) (n c : Nat) (l : List UInt8) (hs : a.eval s = .slice A n c) (hr : ReadsB w B A n l) (hn : 0 < n)
    (h : wpList Tryd.prog ops Q rest (a.put o.dst (.int .i64 ((min n k : Nat) : Int))) (w.setRow g (arr (l.take k ++ dst.drop (min n k))))) : wpList Tryd.prog ops Q (o :: rest) a w := by
  obtain ⟨ad, hA, _, hc⟩ := hr.is.2 hn
  subst hA
  have hlen : ((l.take k).map U8).length = Nat.min n k := by rw [List.length_map, List.length_take, hr.len]; exact Nat.min_comm _ _
  have hrun := run_copy_row (P := Tryd.prog) w 30 30 o.type 5 g 0 k kc ad n c (arr dst) t ((l.take k).map U8) Tryd.underlying30 u8_one hb.is hlen
    (fun j v hv => hc j v (by rw [List.getElem?_map] at hv ⊢; rw [List.getElem?_take] at hv; split at hv; exact hv; cases hv)) (by rw [hlen, arr_size]; have : Nat.min n k ≤ k := Nat.min_le_right _ _; omega) (by intro v hv; obtain ⟨x, _, rfl⟩ := List.mem_map.1 hv; rfl)
  refine wpList_plain hgd fun K hK => ?_
  unfold Oper.wp execOp
  simp only [ho, resolve, invoke, builtin, Sem.run_bind, Sem.run_pure, Result.andThen_ok, List.map_toArray, List.map_cons, List.map_nil, hd, hs, hrun]
  have e1 : goInt ((l.take k).map U8).length = .int .i64 ((min n k : Nat) : Int) := by rw [hlen]; rfl
  have e2 : ((arr dst).toList.take 0 ++ (l.take k).map U8 ++ (arr dst).toList.drop (0 + ((l.take k).map U8).length)).toArray = arr (l.take k ++ dst.drop (min n k)) := by
    rw [hlen, List.take_zero, List.nil_append, Nat.zero_add]
    show ((l.take k).map U8 ++ ((dst.map U8).toArray.toList).drop (Nat.min n k)).toArray = ((l.take k ++ dst.drop (min n k)).map U8).toArray
    rw [List.map_append, ← List.map_drop]
  rw [e1, e2]
  exact hK _ _ h
end
/-- What Poly's walk holds. -/
structure Po (w : World) (kw kv : Nat) (k : List UInt32) (W : World) : Prop where
  bw : Blk W kw 32 (row k)
  bv : Blk W kv 109 #[.slice (some ⟨kw, 0, none⟩) 8 8]
  bo : Blk W (w.heap.size + 1) 87 (arr (List.replicate 16 0))
  old : Below w.heap.size w W
theorem Po.next {w W W' : World} {kw kv : Nat} {k : List UInt32} (h : Po w kw kv k W) (hb : Below W.heap.size W W') : Po w kw kv k W' :=
  ⟨h.bw.below hb h.bw.lt, h.bv.below hb h.bv.lt, h.bo.below hb h.bo.lt, h.old.trans (hb.mono h.old.size)⟩
structure Pp (w : World) (kw kv : Nat) (k : List UInt32) (rb : Nat) (r s : UInt64) (pb : Nat) (p : P3) (W : World) : Prop where
  po : Po w kw kv k W
  br : Blk W rb 148 (cells2 r s)
  bp : Blk W pb 150 p.cells
  lo : w.heap.size ≤ pb
section
variable {w W W' : World} {kw kv : Nat} {k : List UInt32} {rb : Nat} {r s : UInt64} {pb : Nat} {p p' : P3}
theorem Pp.next (h : Pp w kw kv k rb r s pb p W) (hb : Below W.heap.size W W') : Pp w kw kv k rb r s pb p W' :=
  ⟨h.po.next hb, h.br.below hb h.br.lt, h.bp.below hb h.bp.lt, h.lo⟩
theorem Pp.drew (h : Pp w kw kv k rb r s pb p W) : Pp w kw kv k rb r s pb p W.drew := h.next (Below.refl _ _).drew
theorem Pp.put (h : Pp w kw kv k rb r s pb p W) (p' : P3) : Pp w kw kv k rb r s pb p' (W.setRow pb p'.cells) :=
  ⟨⟨h.po.bw.farRow (h.po.bw.ne_ h.bp (by decide)) _, h.po.bv.farRow (h.po.bv.ne_ h.bp (by decide)) _, h.po.bo.farRow (h.po.bo.ne_ h.bp (by decide)) _, below_setRow h.po.old h.lo _⟩, h.br.farRow (h.br.ne_ h.bp (by decide)) _, h.bp.setRow _, h.lo⟩
end
end Cha
theorem Cha.enter_plus (args : Array Value) (w : World) : (callFunc 80 args).run Tryd.prog w = .ok (.enter 80 args) w := by kernel_rfl
theorem Cha.enter_times (args : Array Value) (w : World) : (callFunc 81 args).run Tryd.prog w = .ok (.enter 81 args) w := by kernel_rfl
theorem Cha.enter_two (args : Array Value) (w : World) : (callFunc 79 args).run Tryd.prog w = .ok (.enter 79 args) w := by kernel_rfl
set_option maxHeartbeats 16000000 in
set_option maxRecDepth 100000 in
theorem Cha.poly_any (key : List UInt8) (hk : key.length = 32) (A : Option Addr) (n c : Nat) (text : List UInt8) (w : World) (hr : ReadsB w w.heap.size A n text) (hnc : n ≤ c) (hn : n ≤ 140737488355328) :
    Calls Tryd.prog 64 #[.agg (arr key), .slice A n c] w fun e w' => e = .returned (.agg (arr (Cha.poly key text))) ∧ Below w.heap.size w w' := by
  have HK := hd hk
  clear hk
  obtain ⟨k, Hk⟩ : ∃ k, Hd (Cha.words key 8 = k) := ⟨_, ⟨rfl⟩⟩
  have Lk := hd (show k.length = 8 by rw [← Hk.out, Cha.words_len])
  obtain ⟨r, Hr⟩ : ∃ r, Hd (Cha.two k 0 &&& 1152921487695413247 = r) := ⟨_, ⟨rfl⟩⟩
  obtain ⟨s, Hs⟩ : ∃ r, Hd (Cha.two k 2 &&& 1152921487695413244 = r) := ⟨_, ⟨rfl⟩⟩
  have b0 : Blk ((w.alloc (.cells (arr key) 23)).alloc (.cells (arr (List.replicate 16 0)) 87)) w.heap.size 23 (arr key) := (Blk.nu rfl).alloc _
  have b1 : Blk ((w.alloc (.cells (arr key) 23)).alloc (.cells (arr (List.replicate 16 0)) 87)) (w.heap.size + 1) 87 (arr (List.replicate 16 0)) := Blk.nu (by simp)
  have hB0 := ((Below.refl w.heap.size w).alloc (by simp) (.cells (arr key) 23)).alloc (by simp) (.cells (arr (List.replicate 16 0)) 87)
  go_enter Tryd.func64, Tryd.ntmps64
  go_wp2_with (refine wpl_alloc rfl 87 rfl _ Cha.zero16 ?_)
  refine (Cha.words_any (some ⟨w.heap.size, 0, none⟩) 32 8 32 key _ rfl (by omega) (Cha.blk_reads b0 HK.out b0.lt) (Nat.le_refl _)).mono ?_
  rintro e W1 ⟨kw, rfl, bw, hkw, hE⟩
  rw [Hk.out] at bw
  have b1 := b1.below hE b1.lt
  have hB := hB0.trans (hE.mono hB0.size)
  clear b0 hB0 hE
  obtain ⟨kv, Hkv⟩ : ∃ y, Hd (W1.heap.size = y) := ⟨_, ⟨rfl⟩⟩
  have hkv : w.heap.size ≤ kv := by rw [← Hkv.out]; exact hB.size
  have hkw1 : kw < kv := by rw [← Hkv.out]; exact bw.lt
  have hk1 : w.heap.size + 1 < kv := by rw [← Hkv.out]; exact b1.lt
  have bf := Blk.nu (w := W1) (t := 109) (cs := #[.slice none 0 0]) Hkv.out.symm
  go_wp2_with (first | (rw [Hkv.out]; refine wpl_name (fun W => Blk W kw 32 (Cha.row k) ∧ Blk W (w.heap.size + 1) 87 (arr (List.replicate 16 0)) ∧ Below w.heap.size w W ∧ Blk W kv 109 #[.slice none 0 0]) ⟨bw.alloc _, b1.alloc _, hB.alloc hB.size _, bf⟩ ?_; clear bw b1 hB bf; rintro W2 ⟨bw, b1, hB, bv⟩; have cf := bv.cell 0; have ff := bv.frozen 0; simp only [List.getElem?_toArray, List.getElem?_cons_zero] at cf))
  have H : Cha.Po w kw kv k (W2.setCell ⟨kv, 0, none⟩ (.slice (some ⟨kw, 0, none⟩) 8 8)) := ⟨bw.far (by simp only []; omega) _, bv.set_ 0 _, b1.far (by simp only []; omega) _, hB.setCell (by simp only []; omega) _⟩
  clear bw bv b1 hB cf ff
  refine (Cha.two_any kw kv 8 0 k Lk.out (by omega) (by omega) _ H.bv H.bw).mono ?_
  rintro e W3 ⟨rfl, hE⟩
  have H := H.next hE
  clear hE
  go_wp2_with fail
  refine (Cha.two_any kw kv 8 2 k Lk.out (by omega) (by omega) _ H.bv H.bw).mono ?_
  rintro e W4 ⟨rfl, hE⟩
  have H := H.next hE
  clear hE
  obtain ⟨rb, Hrb⟩ : ∃ y, Hd (W4.heap.size = y) := ⟨_, ⟨rfl⟩⟩
  go_wp2_with (first
    | (refine wpl_build rfl 148 _ rfl [(0, .int .u64 ((n64 (Cha.two k 0 &&& 1152921487695413247) : Nat) : Int)), (1, .int .u64 ((n64 (Cha.two k 2 &&& 1152921487695413244) : Nat) : Int))] rfl _ (Cha.built2 _ _) ?_; rw [Hr.out, Hs.out])
    | (refine wpl_alloc rfl 148 rfl _ Cha.zero2 ?_; rw [Hrb.out])
    | (refine Cha.wpl_store2 rfl _ _ rfl rb r s rfl rfl 148 _ (Blk.nu Hrb.out.symm) rfl ?_; refine wpl_name (fun W => Cha.Po w kw kv k W ∧ Blk W rb 148 (Cha.cells2 r s)) ⟨H.next (below_setRow ((Below.refl _ _).alloc (Nat.le_refl _) _) (Nat.le_of_eq Hrb.out) _), (Blk.nu Hrb.out.symm).setRow _⟩ ?_; clear H; rintro W5 ⟨H, br⟩; obtain ⟨pb, Hpb⟩ : ∃ y, Hd (W5.heap.size = y) := ⟨_, ⟨rfl⟩⟩; have hpb : w.heap.size ≤ pb := (by rw [← Hpb.out]; exact H.old.size))
    | (refine wpl_alloc rfl 150 rfl _ Cha.zero3 ?_; rw [Hpb.out]; refine wpl_name (fun W => Cha.Pp w kw kv k rb r s pb ⟨0, 0, 0⟩ W) ⟨H.next ((Below.refl _ _).alloc (Nat.le_refl _) _), br.alloc _, Blk.nu Hpb.out.symm, hpb⟩ ?_; clear H br; rintro W6 H))
  obtain ⟨fd, Hfd⟩ : ∃ x, Hd (Cha.feed r s text ⟨0, 0, 0⟩ = x) := ⟨_, ⟨rfl⟩⟩
  simp only [Act.put, List.getElem_toArray, List.getElem_cons_succ, List.getElem_cons_zero, List.setIfInBounds_toArray, List.set_cons_zero, List.set_cons_succ]
  go_loopw [1] (fun v wi => ∃ A' n' c' rem p, v = .slice A' n' c' ∧ ReadsB w w.heap.size A' n' rem ∧ n' ≤ c' ∧ Cha.feed r s rem p = fd ∧ Cha.Pp w kw kv k rb r s pb p wi) (fun v _ => Cha.lenS v)
  case atStart => exact ⟨A, n, c, text, _, rfl, hr, hnc, Hfd.out, H⟩
  case round =>
    clear H hr hnc hn
    obtain ⟨A1, n1, c1, rem, p, rfl, hR, hnc1, hfeed, H⟩ := hrel
    have Hfeed := hd hfeed
    clear hfeed
    have Hrem := hd hR.len
    by_cases hn0 : 0 < n1
    · have tn : (0 : Int) < (n1 : Int) := by omega
      have hne : rem ≠ [] := by intro e; rw [e] at Hrem; have := Hrem.out; simp at this; omega
      obtain ⟨mm, Hmm⟩ : ∃ x, Hd (min n1 16 = x) := ⟨_, ⟨rfl⟩⟩
      have hmm : mm ≤ n1 := by rw [← Hmm.out]; exact Nat.min_le_left _ _
      have hmm0 : 0 < mm := by rw [← Hmm.out]; omega
      have hmm1 : mm ≤ 16 := by rw [← Hmm.out]; exact Nat.min_le_right _ _
      have Hdrop := hd (show rem.drop mm = rem.drop 16 by
        rw [← Hmm.out]
        by_cases h16 : n1 ≤ 16
        · rw [Nat.min_eq_left h16, List.drop_of_length_le (by rw [Hrem.out]; omega), List.drop_of_length_le (by rw [Hrem.out]; omega)]
        · rw [Nat.min_eq_right (by omega)])
      obtain ⟨l0, Hl0⟩ : ∃ x, Hd (rem.take 16 ++ (List.replicate 24 (0 : UInt8)).drop (min n1 16) = x) := ⟨_, ⟨rfl⟩⟩
      obtain ⟨l1, Hl1⟩ : ∃ x, Hd (Cha.buf rem = x) := ⟨_, ⟨rfl⟩⟩
      have Ll1 := hd (show l1.length = 24 by rw [← Hl1.out]; exact Cha.buf_len _)
      have Hset := hd (show l0.set mm 1 = l1 by rw [← Hl0.out, ← Hl1.out, ← Hmm.out]; unfold Cha.buf; rw [Hrem.out])
      have Ll0 := hd (show l0.length = 24 by have := Ll1.out; rw [← Hset.out, List.length_set] at this; exact this)
      obtain ⟨ws, Hws⟩ : ∃ x, Hd (Cha.words l1 6 = x) := ⟨_, ⟨rfl⟩⟩
      have Lws := hd (show ws.length = 6 by rw [← Hws.out, Cha.words_len])
      obtain ⟨p', Hp'⟩ : ∃ x, Hd ((p.plus (Cha.two ws 0) (Cha.two ws 2) (Cha.at_ ws 4).toUInt64).times r s = x) := ⟨_, ⟨rfl⟩⟩
      have Hstep := hd (show Cha.feed r s (rem.drop 16) p' = fd by rw [← Hfeed.out, Cha.feed_step r s rem p hne, ← Hp'.out, ← Hws.out, ← Hl1.out]; unfold Cha.absorb; rfl)
      clear hne
      obtain ⟨A2, HA2⟩ : ∃ x, Hd ((if c1 = mm then A1 else A1.map (·.add mm)) = x) := ⟨_, ⟨rfl⟩⟩
      obtain ⟨bb, Hbb⟩ : ∃ y, Hd (wr.heap.size = y) := ⟨_, ⟨rfl⟩⟩
      have tm : (mm : Int) < 24 := by omega
      have hbb : w.heap.size ≤ bb := by rw [← Hbb.out]; exact H.po.old.size
      have hR' : ReadsB (wr.alloc (.cells (arr (List.replicate 24 0)) 151)) w.heap.size A1 n1 rem := ⟨hR.len, (hR.is.below H.po.old).alloc H.po.old.size _⟩
      go_wp2_with (first
        | (refine wpl_run (o := ⟨some 35, _, _, _, _, _⟩) (wanted_plain rfl) (.slice A2 (n1 - mm) (c1 - mm)) (by rw [← HA2.out]; exact run_slice_from (by rfl) Tryd.underlying30 u8_cell1 A1 n1 c1 mm (by simp [Act.eval]) (by simp [Act.eval]) hmm hnc1) ?_)
        | (refine wpl_alloc rfl 151 rfl _ Cha.zero24 ?_; rw [Hbb.out])
        | (refine Cha.wpl_copyP rfl _ _ rfl bb 151 (List.replicate 24 0) 16 24 rfl (by decide) (Blk.nu Hbb.out.symm) w.heap.size A1 n1 c1 rem rfl hR' hn0 ?_; rw [Hl0.out, Hmm.out]; refine wpl_name (fun wo => Cha.Pp w kw kv k rb r s pb p wo ∧ Blk wo bb 151 (arr l0)) ⟨H.next (below_setRow ((Below.refl _ _).alloc (Nat.le_refl _) _) (Nat.le_of_eq Hbb.out) _), (Blk.nu Hbb.out.symm).setRow _⟩ ?_; clear H hR'; rintro W7 ⟨H, bb0⟩; have cb := bb0.arr_cell mm (by rw [Ll0.out]; omega); have fb := bb0.frozen mm; have bb1 : Blk (W7.setCell ⟨bb, mm, none⟩ (.int .u8 1)) bb 151 (arr l1) := (by have h := bb0.arr_set mm 1; rw [Hset.out] at h; exact h)))
      have H1 : Cha.Pp w kw kv k rb r s pb p (W7.setCell ⟨bb, mm, none⟩ (.int .u8 1)) :=
        ⟨⟨H.po.bw.far (H.po.bw.ne_ bb0 (by decide)) _, H.po.bv.far (H.po.bv.ne_ bb0 (by decide)) _, H.po.bo.far (H.po.bo.ne_ bb0 (by decide)) _, H.po.old.setCell hbb _⟩, H.br.far (H.br.ne_ bb0 (by decide)) _, H.bp.far (H.bp.ne_ bb0 (by decide)) _, H.lo⟩
      refine (Cha.words_any (some ⟨bb, 0, none⟩) 24 6 24 l1 _ rfl (by omega) (Cha.blk_reads bb1 Ll1.out bb1.lt) (Nat.le_refl _)).mono ?_
      rintro e W8 ⟨z, rfl, bz, hz, hE⟩
      rw [Hws.out] at bz
      have H := H1.next hE
      clear H1 hE hz bb0 cb fb bb1
      go_wp2
      refine x_start 28 (fun W => Cha.Pp w kw kv k rb r s pb p W ∧ Blk W z 32 (Cha.row ws)) (by kernel_rfl) ⟨H.drew, bz.drew⟩ ?_
      clear H bz
      refine x_take 0 (o := _) rfl (by kernel_rfl) (by kernel_rfl) (by kernel_rfl) (by kernel_rfl) (wanted_plain rfl) (.agg p.cells) (fun _ _ _ h => h) (fun W hW => Cha.run_load3 (by rfl) pb p (by simp [Act.eval]) 150 hW.1.bp) ?_
      simp only [Act.put, List.getElem_toArray, List.getElem_cons_succ, List.getElem_cons_zero, List.setIfInBounds_toArray, List.set_cons_zero, List.set_cons_succ]
      refine x_take 1 (o := _) rfl (by kernel_rfl) (by kernel_rfl) (by kernel_rfl) (by kernel_rfl) (wanted_plain rfl) (.slice (some ⟨z, 0, none⟩) 6 6) (fun _ _ _ h => h) (fun W hW => run_move (by rfl) (by simp [Act.eval]) W) ?_
      simp only [Act.put, List.getElem_toArray, List.getElem_cons_succ, List.getElem_cons_zero, List.setIfInBounds_toArray, List.set_cons_zero, List.set_cons_succ]
      refine x_take 2 (o := _) rfl (by kernel_rfl) (by kernel_rfl) (by kernel_rfl) (by kernel_rfl) (wanted_plain rfl) (.pointer (some ⟨z, 0, none⟩)) (fun _ _ _ h => h) (fun W hW => Cha.run_indexAddr (v := .slice (some ⟨z, 0, none⟩) 6 6) (u := .int .i64 0) (by rfl) (by simp [Act.eval]) (by simp [Act.eval]) (fun w => by kernel_rfl)) ?_
      simp only [Act.put, List.getElem_toArray, List.getElem_cons_succ, List.getElem_cons_zero, List.setIfInBounds_toArray, List.set_cons_zero, List.set_cons_succ]
      refine x_take 3 (o := _) rfl (by kernel_rfl) (by kernel_rfl) (by kernel_rfl) (by kernel_rfl) (wanted_plain rfl) (.int .u32 ((n32 (Cha.at_ ws 0) : Nat) : Int)) (fun _ _ _ h => h) (fun W hW => run_execOp_load (by rfl) (by simp [Act.eval]) (Cha.run_load_u32 _ _ W (Cha.Blk.cellW hW.2 0 (by rw [Lws.out]; decide)))) ?_
      simp only [Act.put, List.getElem_toArray, List.getElem_cons_succ, List.getElem_cons_zero, List.setIfInBounds_toArray, List.set_cons_zero, List.set_cons_succ]
      refine x_take 4 (o := _) rfl (by kernel_rfl) (by kernel_rfl) (by kernel_rfl) (by kernel_rfl) (wanted_plain rfl) (.int .u64 ((n64 ((Cha.at_ ws 0).toUInt64) : Nat) : Int)) (fun _ _ _ h => h) (fun W hW => Cha.run_conv64 (by rfl) (Cha.at_ ws 0) (by simp [Act.eval])) ?_
      simp only [Act.put, List.getElem_toArray, List.getElem_cons_succ, List.getElem_cons_zero, List.setIfInBounds_toArray, List.set_cons_zero, List.set_cons_succ]
      refine x_take 5 (o := _) rfl (by kernel_rfl) (by kernel_rfl) (by kernel_rfl) (by kernel_rfl) (wanted_plain rfl) (.slice (some ⟨z, 0, none⟩) 6 6) (fun _ _ _ h => h) (fun W hW => run_move (by rfl) (by simp [Act.eval]) W) ?_
      simp only [Act.put, List.getElem_toArray, List.getElem_cons_succ, List.getElem_cons_zero, List.setIfInBounds_toArray, List.set_cons_zero, List.set_cons_succ]
      refine x_take 6 (o := _) rfl (by kernel_rfl) (by kernel_rfl) (by kernel_rfl) (by kernel_rfl) (wanted_plain rfl) (.pointer (some ⟨z, 1, none⟩)) (fun _ _ _ h => h) (fun W hW => Cha.run_indexAddr (v := .slice (some ⟨z, 0, none⟩) 6 6) (u := .int .i64 1) (by rfl) (by simp [Act.eval]) (by simp [Act.eval]) (fun w => by kernel_rfl)) ?_
      simp only [Act.put, List.getElem_toArray, List.getElem_cons_succ, List.getElem_cons_zero, List.setIfInBounds_toArray, List.set_cons_zero, List.set_cons_succ]
      refine x_take 7 (o := _) rfl (by kernel_rfl) (by kernel_rfl) (by kernel_rfl) (by kernel_rfl) (wanted_plain rfl) (.int .u32 ((n32 (Cha.at_ ws 1) : Nat) : Int)) (fun _ _ _ h => h) (fun W hW => run_execOp_load (by rfl) (by simp [Act.eval]) (Cha.run_load_u32 _ _ W (Cha.Blk.cellW hW.2 1 (by rw [Lws.out]; decide)))) ?_
      simp only [Act.put, List.getElem_toArray, List.getElem_cons_succ, List.getElem_cons_zero, List.setIfInBounds_toArray, List.set_cons_zero, List.set_cons_succ]
      refine x_take 8 (o := _) rfl (by kernel_rfl) (by kernel_rfl) (by kernel_rfl) (by kernel_rfl) (wanted_plain rfl) (.int .u64 ((n64 ((Cha.at_ ws 1).toUInt64) : Nat) : Int)) (fun _ _ _ h => h) (fun W hW => Cha.run_conv64 (by rfl) (Cha.at_ ws 1) (by simp [Act.eval])) ?_
      simp only [Act.put, List.getElem_toArray, List.getElem_cons_succ, List.getElem_cons_zero, List.setIfInBounds_toArray, List.set_cons_zero, List.set_cons_succ]
      refine x_take 9 (o := _) rfl (by kernel_rfl) (by kernel_rfl) (by kernel_rfl) (by kernel_rfl) (wanted_plain rfl) (.int .u64 ((n64 ((Cha.at_ ws 1).toUInt64 <<< 32) : Nat) : Int)) (fun _ _ _ h => h) (fun W hW => Cha.run_shl32 (by rfl) ((Cha.at_ ws 1).toUInt64) (by simp [Act.eval]) (by simp [Act.eval])) ?_
      simp only [Act.put, List.getElem_toArray, List.getElem_cons_succ, List.getElem_cons_zero, List.setIfInBounds_toArray, List.set_cons_zero, List.set_cons_succ]
      refine x_take 10 (o := _) rfl (by kernel_rfl) (by kernel_rfl) (by kernel_rfl) (by kernel_rfl) (wanted_plain rfl) (.int .u64 ((n64 (Cha.two ws 0) : Nat) : Int)) (fun _ _ _ h => h) (fun W hW => Cha.run_or64 (by rfl) ((Cha.at_ ws 0).toUInt64) ((Cha.at_ ws 1).toUInt64 <<< 32) (by simp [Act.eval]) (by simp [Act.eval])) ?_
      simp only [Act.put, List.getElem_toArray, List.getElem_cons_succ, List.getElem_cons_zero, List.setIfInBounds_toArray, List.set_cons_zero, List.set_cons_succ]
      refine x_take 11 (o := _) rfl (by kernel_rfl) (by kernel_rfl) (by kernel_rfl) (by kernel_rfl) (wanted_plain rfl) (.slice (some ⟨z, 0, none⟩) 6 6) (fun _ _ _ h => h) (fun W hW => run_move (by rfl) (by simp [Act.eval]) W) ?_
      simp only [Act.put, List.getElem_toArray, List.getElem_cons_succ, List.getElem_cons_zero, List.setIfInBounds_toArray, List.set_cons_zero, List.set_cons_succ]
      refine x_take 12 (o := _) rfl (by kernel_rfl) (by kernel_rfl) (by kernel_rfl) (by kernel_rfl) (wanted_plain rfl) (.pointer (some ⟨z, 2, none⟩)) (fun _ _ _ h => h) (fun W hW => Cha.run_indexAddr (v := .slice (some ⟨z, 0, none⟩) 6 6) (u := .int .i64 2) (by rfl) (by simp [Act.eval]) (by simp [Act.eval]) (fun w => by kernel_rfl)) ?_
      simp only [Act.put, List.getElem_toArray, List.getElem_cons_succ, List.getElem_cons_zero, List.setIfInBounds_toArray, List.set_cons_zero, List.set_cons_succ]
      refine x_take 13 (o := _) rfl (by kernel_rfl) (by kernel_rfl) (by kernel_rfl) (by kernel_rfl) (wanted_plain rfl) (.int .u32 ((n32 (Cha.at_ ws 2) : Nat) : Int)) (fun _ _ _ h => h) (fun W hW => run_execOp_load (by rfl) (by simp [Act.eval]) (Cha.run_load_u32 _ _ W (Cha.Blk.cellW hW.2 2 (by rw [Lws.out]; decide)))) ?_
      simp only [Act.put, List.getElem_toArray, List.getElem_cons_succ, List.getElem_cons_zero, List.setIfInBounds_toArray, List.set_cons_zero, List.set_cons_succ]
      refine x_take 14 (o := _) rfl (by kernel_rfl) (by kernel_rfl) (by kernel_rfl) (by kernel_rfl) (wanted_plain rfl) (.int .u64 ((n64 ((Cha.at_ ws 2).toUInt64) : Nat) : Int)) (fun _ _ _ h => h) (fun W hW => Cha.run_conv64 (by rfl) (Cha.at_ ws 2) (by simp [Act.eval])) ?_
      simp only [Act.put, List.getElem_toArray, List.getElem_cons_succ, List.getElem_cons_zero, List.setIfInBounds_toArray, List.set_cons_zero, List.set_cons_succ]
      refine x_take 15 (o := _) rfl (by kernel_rfl) (by kernel_rfl) (by kernel_rfl) (by kernel_rfl) (wanted_plain rfl) (.slice (some ⟨z, 0, none⟩) 6 6) (fun _ _ _ h => h) (fun W hW => run_move (by rfl) (by simp [Act.eval]) W) ?_
      simp only [Act.put, List.getElem_toArray, List.getElem_cons_succ, List.getElem_cons_zero, List.setIfInBounds_toArray, List.set_cons_zero, List.set_cons_succ]
      refine x_take 16 (o := _) rfl (by kernel_rfl) (by kernel_rfl) (by kernel_rfl) (by kernel_rfl) (wanted_plain rfl) (.pointer (some ⟨z, 3, none⟩)) (fun _ _ _ h => h) (fun W hW => Cha.run_indexAddr (v := .slice (some ⟨z, 0, none⟩) 6 6) (u := .int .i64 3) (by rfl) (by simp [Act.eval]) (by simp [Act.eval]) (fun w => by kernel_rfl)) ?_
      simp only [Act.put, List.getElem_toArray, List.getElem_cons_succ, List.getElem_cons_zero, List.setIfInBounds_toArray, List.set_cons_zero, List.set_cons_succ]
      refine x_take 17 (o := _) rfl (by kernel_rfl) (by kernel_rfl) (by kernel_rfl) (by kernel_rfl) (wanted_plain rfl) (.int .u32 ((n32 (Cha.at_ ws 3) : Nat) : Int)) (fun _ _ _ h => h) (fun W hW => run_execOp_load (by rfl) (by simp [Act.eval]) (Cha.run_load_u32 _ _ W (Cha.Blk.cellW hW.2 3 (by rw [Lws.out]; decide)))) ?_
      simp only [Act.put, List.getElem_toArray, List.getElem_cons_succ, List.getElem_cons_zero, List.setIfInBounds_toArray, List.set_cons_zero, List.set_cons_succ]
      refine x_take 18 (o := _) rfl (by kernel_rfl) (by kernel_rfl) (by kernel_rfl) (by kernel_rfl) (wanted_plain rfl) (.int .u64 ((n64 ((Cha.at_ ws 3).toUInt64) : Nat) : Int)) (fun _ _ _ h => h) (fun W hW => Cha.run_conv64 (by rfl) (Cha.at_ ws 3) (by simp [Act.eval])) ?_
      simp only [Act.put, List.getElem_toArray, List.getElem_cons_succ, List.getElem_cons_zero, List.setIfInBounds_toArray, List.set_cons_zero, List.set_cons_succ]
      refine x_take 19 (o := _) rfl (by kernel_rfl) (by kernel_rfl) (by kernel_rfl) (by kernel_rfl) (wanted_plain rfl) (.int .u64 ((n64 ((Cha.at_ ws 3).toUInt64 <<< 32) : Nat) : Int)) (fun _ _ _ h => h) (fun W hW => Cha.run_shl32 (by rfl) ((Cha.at_ ws 3).toUInt64) (by simp [Act.eval]) (by simp [Act.eval])) ?_
      simp only [Act.put, List.getElem_toArray, List.getElem_cons_succ, List.getElem_cons_zero, List.setIfInBounds_toArray, List.set_cons_zero, List.set_cons_succ]
      refine x_take 20 (o := _) rfl (by kernel_rfl) (by kernel_rfl) (by kernel_rfl) (by kernel_rfl) (wanted_plain rfl) (.int .u64 ((n64 (Cha.two ws 2) : Nat) : Int)) (fun _ _ _ h => h) (fun W hW => Cha.run_or64 (by rfl) ((Cha.at_ ws 2).toUInt64) ((Cha.at_ ws 3).toUInt64 <<< 32) (by simp [Act.eval]) (by simp [Act.eval])) ?_
      simp only [Act.put, List.getElem_toArray, List.getElem_cons_succ, List.getElem_cons_zero, List.setIfInBounds_toArray, List.set_cons_zero, List.set_cons_succ]
      refine x_take 21 (o := _) rfl (by kernel_rfl) (by kernel_rfl) (by kernel_rfl) (by kernel_rfl) (wanted_plain rfl) (.slice (some ⟨z, 0, none⟩) 6 6) (fun _ _ _ h => h) (fun W hW => run_move (by rfl) (by simp [Act.eval]) W) ?_
      simp only [Act.put, List.getElem_toArray, List.getElem_cons_succ, List.getElem_cons_zero, List.setIfInBounds_toArray, List.set_cons_zero, List.set_cons_succ]
      refine x_take 22 (o := _) rfl (by kernel_rfl) (by kernel_rfl) (by kernel_rfl) (by kernel_rfl) (wanted_plain rfl) (.pointer (some ⟨z, 4, none⟩)) (fun _ _ _ h => h) (fun W hW => Cha.run_indexAddr (v := .slice (some ⟨z, 0, none⟩) 6 6) (u := .int .i64 4) (by rfl) (by simp [Act.eval]) (by simp [Act.eval]) (fun w => by kernel_rfl)) ?_
      simp only [Act.put, List.getElem_toArray, List.getElem_cons_succ, List.getElem_cons_zero, List.setIfInBounds_toArray, List.set_cons_zero, List.set_cons_succ]
      refine x_take 23 (o := _) rfl (by kernel_rfl) (by kernel_rfl) (by kernel_rfl) (by kernel_rfl) (wanted_plain rfl) (.int .u32 ((n32 (Cha.at_ ws 4) : Nat) : Int)) (fun _ _ _ h => h) (fun W hW => run_execOp_load (by rfl) (by simp [Act.eval]) (Cha.run_load_u32 _ _ W (Cha.Blk.cellW hW.2 4 (by rw [Lws.out]; decide)))) ?_
      simp only [Act.put, List.getElem_toArray, List.getElem_cons_succ, List.getElem_cons_zero, List.setIfInBounds_toArray, List.set_cons_zero, List.set_cons_succ]
      refine x_take 24 (o := _) rfl (by kernel_rfl) (by kernel_rfl) (by kernel_rfl) (by kernel_rfl) (wanted_plain rfl) (.int .u64 ((n64 ((Cha.at_ ws 4).toUInt64) : Nat) : Int)) (fun _ _ _ h => h) (fun W hW => Cha.run_conv64 (by rfl) (Cha.at_ ws 4) (by simp [Act.eval])) ?_
      simp only [Act.put, List.getElem_toArray, List.getElem_cons_succ, List.getElem_cons_zero, List.setIfInBounds_toArray, List.set_cons_zero, List.set_cons_succ]
      refine x_take 26 (o := _) rfl (by kernel_rfl) (by kernel_rfl) (by kernel_rfl) (by kernel_rfl) (wanted_plain rfl) (.agg (Cha.cells2 r s)) (fun _ _ _ h => h) (fun W hW => Cha.run_load2 (by rfl) rb r s (by simp [Act.eval]) 148 hW.1.br) ?_
      simp only [Act.put, List.getElem_toArray, List.getElem_cons_succ, List.getElem_cons_zero, List.setIfInBounds_toArray, List.set_cons_zero, List.set_cons_succ]
      refine x_one 25 (by kernel_rfl) (fun W hW _ => ?_)
      refine op_call (o := _) rfl (wanted_plain rfl) 80 _ _ rfl #[.agg p.cells, .int .u64 ((n64 (Cha.two ws 0) : Nat) : Int), .int .u64 ((n64 (Cha.two ws 2) : Nat) : Int), .int .u64 ((n64 ((Cha.at_ ws 4).toUInt64) : Nat) : Int)] (by simp [Act.eval]) (Cha.enter_plus _) ?_
      refine (Cha.plus_any p (Cha.two ws 0) (Cha.two ws 2) ((Cha.at_ ws 4).toUInt64) W).mono ?_
      rintro e W5 ⟨rfl, hE⟩
      refine ⟨_, rfl, NextX.mk (fun W => Cha.Pp w kw kv k rb r s pb p W ∧ Blk W z 32 (Cha.row ws)) (fun _ => True) (fun _ h => h) ⟨hW.1.next hE, hW.2.below hE hW.2.lt⟩ trivial ?_⟩
      clear hE hW
      simp only [Act.put, List.getElem_toArray, List.getElem_cons_succ, List.getElem_cons_zero, List.setIfInBounds_toArray, List.set_cons_zero, List.set_cons_succ]
      refine x_one 27 (by kernel_rfl) (fun W hW _ => ?_)
      refine op_call (o := _) rfl (wanted_plain rfl) 81 _ _ rfl #[.agg (p.plus (Cha.two ws 0) (Cha.two ws 2) ((Cha.at_ ws 4).toUInt64)).cells, .agg (Cha.cells2 r s)] (by simp [Act.eval]) (Cha.enter_times _) ?_
      refine (Cha.times_any (p.plus (Cha.two ws 0) (Cha.two ws 2) ((Cha.at_ ws 4).toUInt64)) r s W).mono ?_
      rintro e W5 ⟨rfl, hE⟩
      rw [Hp'.out]
      refine ⟨_, rfl, NextX.mk (fun W => Cha.Pp w kw kv k rb r s pb p W ∧ Blk W z 32 (Cha.row ws)) (fun _ => True) (fun _ h => h) ⟨hW.1.next hE, hW.2.below hE hW.2.lt⟩ trivial ?_⟩
      clear hE hW
      simp only [Act.put, List.getElem_toArray, List.getElem_cons_succ, List.getElem_cons_zero, List.setIfInBounds_toArray, List.set_cons_zero, List.set_cons_succ]
      refine x_last (by kernel_rfl) (by kernel_rfl) (fun W hW _ => ?_) _
      refine op_skip (o := _) rfl (wanted_plain rfl) _ (Cha.run_store3 (by rfl) pb p' (by simp [Act.eval]) (by simp [Act.eval]) 150 p.cells hW.1.bp rfl) ?_
      have H := hW.1.put p'
      clear hW
      simp only [Act.put, List.getElem_toArray, List.getElem_cons_succ, List.getElem_cons_zero, List.setIfInBounds_toArray, List.set_cons_zero, List.set_cons_succ]
      go_wp2
      have hdr := hR.drop (k := mm) hmm hnc1
      rw [Hdrop.out, HA2.out] at hdr
      go_roundw
      case rel => exact ⟨_, _, _, rem.drop 16, p', rfl, hdr, by omega, Hstep.out, H⟩
      case measure => simp [Cha.lenS]; omega
    · have tn : ¬ (0 : Int) < (n1 : Int) := by omega
      have e0 : rem = [] := List.eq_nil_of_length_eq_zero (by rw [Hrem.out]; omega)
      have Hc := hd (show p = fd by rw [← Hfeed.out, e0, Cha.feed_nil])
      clear e0 hR hnc1
      obtain ⟨q1, Hq1⟩ : ∃ x, Hd (Cha.less p = x) := ⟨_, ⟨rfl⟩⟩
      obtain ⟨q, Hq⟩ : ∃ x, Hd (Cha.less q1 = x) := ⟨_, ⟨rfl⟩⟩
      obtain ⟨f, Hf⟩ : ∃ x, Hd (q.plus (Cha.two k 4) (Cha.two k 6) 0 = x) := ⟨_, ⟨rfl⟩⟩
      have Hsum := hd (show Cha.poly key text = Cha.out f by
        unfold Cha.poly Cha.sum Cha.low Cha.high
        rw [Hk.out, Hr.out, Hs.out, Hfd.out, ← Hc.out, Hq1.out, Hq.out, Hf.out])
      obtain ⟨L, HL⟩ : ∃ L : Nat → Cha.P3, Hd (L 0 = p ∧ L 1 = q1 ∧ L 2 = q ∧ ∀ i, i < 2 → L (i + 1) = Cha.less (L i)) := ⟨fun i => if i = 0 then p else if i = 1 then q1 else q, ⟨rfl, rfl, rfl, fun i hi => by
        rcases (show i = 0 ∨ i = 1 by omega) with rfl | rfl
        · exact Hq1.out.symm
        · exact Hq.out.symm⟩⟩
      have H : Cha.Pp w kw kv k rb r s pb (L 0) wr := by rw [HL.out.1]; exact H
      go_wp2
      go_loopw [66] (fun i wr => ∃ j : Nat, j ≤ 2 ∧ i = .int .i64 (j : Int) ∧ Cha.Pp w kw kv k rb r s pb (L j) wr) (fun i _ => 2 - (intOf i).toNat)
      case atStart => exact ⟨0, by omega, rfl, H⟩
      case round =>
        clear H
        obtain ⟨j, hj, rfl, H⟩ := hrel
        by_cases hlt : j < 2
        · have tj : (j : Int) < 2 := by omega
          have Hn := hd (HL.out.2.2.2 j hlt)
          obtain ⟨y, Hy⟩ : ∃ x, Hd (L j = x) := ⟨_, ⟨rfl⟩⟩
          obtain ⟨y', Hy'⟩ : ∃ x, Hd (L (j + 1) = x) := ⟨_, ⟨rfl⟩⟩
          obtain ⟨u, Hu⟩ : ∃ x, Hd (y.plus 5 0 0 = x) := ⟨_, ⟨rfl⟩⟩
          rw [Hy.out] at H Hn
          rw [Hy'.out] at Hn
          go_wp2_with (refine Cha.wpl_load3 rfl _ rfl pb y rfl 150 H.bp ?_)
          refine (Cha.plus_any y 5 0 0 _).mono ?_
          rintro e W7 ⟨rfl, hE⟩
          rw [Hu.out]
          have H := H.next hE
          clear hE
          obtain ⟨bb, Hbb⟩ : ∃ y, Hd (W7.heap.size = y) := ⟨_, ⟨rfl⟩⟩
          have hbb : w.heap.size ≤ bb := by rw [← Hbb.out]; exact H.po.old.size
          by_cases h4 : 4 ≤ u.c
          · have Hl := hd (show y' = ⟨u.a, u.b, u.c - 4⟩ by rw [Hn.out]; unfold Cha.less; rw [Hu.out, if_pos h4])
            have b5 : ∀ W, Blk W bb 150 u.cells → Blk (W.setCell ⟨bb, 2, none⟩ (.int .u64 ((n64 (u.c - 4) : Nat) : Int))) bb 150 y'.cells := fun W h => by rw [Hl.out]; exact h.set_ 2 _
            have B5 := hd b5
            clear b5
            go_wp2_with (first
              | (refine Cha.wpl_store3 rfl _ _ rfl pb y' rfl rfl 150 _ H8.bp rfl ?_)
              | (refine Cha.wpl_load3 rfl _ rfl bb y' rfl 150 (B5.out _ bu) ?_; have H8 : Cha.Pp w kw kv k rb r s pb y (W8.setCell ⟨bb, 2, none⟩ (.int .u64 ((n64 (u.c - 4) : Nat) : Int))) := ⟨⟨H.po.bw.far (H.po.bw.ne_ bu (by decide)) _, H.po.bv.far (H.po.bv.ne_ bu (by decide)) _, H.po.bo.far (H.po.bo.ne_ bu (by decide)) _, H.po.old.setCell hbb _⟩, H.br.far (H.br.ne_ bu (by decide)) _, H.bp.far hpb2 _, H.lo⟩)
              | (refine wpl_alloc rfl 150 rfl _ Cha.zero3 ?_; rw [Hbb.out])
              | (refine Cha.wpl_store3 rfl _ _ rfl bb u rfl rfl 150 _ (Blk.nu Hbb.out.symm) rfl ?_; refine wpl_name (fun wo => Cha.Pp w kw kv k rb r s pb y wo ∧ Blk wo bb 150 u.cells) ⟨H.next (below_setRow ((Below.refl _ _).alloc (Nat.le_refl _) _) (Nat.le_of_eq Hbb.out) _), (Blk.nu Hbb.out.symm).setRow _⟩ ?_; have hpb2 : pb ≠ bb := (by rw [← Hbb.out]; have := H.bp.lt; omega); clear H; rintro W8 ⟨H, bu⟩; have cu : W8.cell? ⟨bb, 2, none⟩ = some (.int .u64 ((n64 u.c : Nat) : Int)) := bu.cell 2; have fu := bu.frozen 2))
            go_roundw
            case rel => exact ⟨j + 1, by omega, by go_num, by rw [Hy'.out]; exact H8.put y'⟩
            case measure => simp [intOf]; omega
          · have Hl := hd (show y' = y by rw [Hn.out]; unfold Cha.less; rw [Hu.out, if_neg h4])
            go_wp2_with (first
              | (refine wpl_alloc rfl 150 rfl _ Cha.zero3 ?_; rw [Hbb.out])
              | (refine Cha.wpl_store3 rfl _ _ rfl bb u rfl rfl 150 _ (Blk.nu Hbb.out.symm) rfl ?_; refine wpl_name (fun wo => Cha.Pp w kw kv k rb r s pb y wo ∧ Blk wo bb 150 u.cells) ⟨H.next (below_setRow ((Below.refl _ _).alloc (Nat.le_refl _) _) (Nat.le_of_eq Hbb.out) _), (Blk.nu Hbb.out.symm).setRow _⟩ ?_; clear H; rintro W8 ⟨H, bu⟩; have cu : W8.cell? ⟨bb, 2, none⟩ = some (.int .u64 ((n64 u.c : Nat) : Int)) := bu.cell 2))
            go_roundw
            case rel => exact ⟨j + 1, by omega, by go_num, by rw [Hy'.out, Hl.out]; exact H⟩
            case measure => simp [intOf]; omega
        · have ej : j = 2 := by omega
          subst ej
          have tj : ¬ ((2 : Nat) : Int) < 2 := by omega
          rw [HL.out.2.2.1] at H
          go_wp2
          refine x_start 6 (fun W => Cha.Pp w kw kv k rb r s pb q W) (by kernel_rfl) H.drew ?_
          clear H
          refine x_take 0 (o := _) rfl (by kernel_rfl) (by kernel_rfl) (by kernel_rfl) (by kernel_rfl) (wanted_plain rfl) (.agg q.cells) (fun _ _ _ h => h) (fun W hW => Cha.run_load3 (by rfl) pb q (by simp [Act.eval]) 150 hW.bp) ?_
          simp only [Act.put, List.getElem_toArray, List.getElem_cons_succ, List.getElem_cons_zero, List.setIfInBounds_toArray, List.set_cons_zero, List.set_cons_succ]
          refine x_take 1 (o := _) rfl (by kernel_rfl) (by kernel_rfl) (by kernel_rfl) (by kernel_rfl) (wanted_plain rfl) (.func (.func 79) #[] #[.pointer (some ⟨kv, 0, none⟩)]) (fun _ _ _ h => h) (fun W hW => run_move (by rfl) (by simp [Act.eval]) W) ?_
          simp only [Act.put, List.getElem_toArray, List.getElem_cons_succ, List.getElem_cons_zero, List.setIfInBounds_toArray, List.set_cons_zero, List.set_cons_succ]
          refine x_take 3 (o := _) rfl (by kernel_rfl) (by kernel_rfl) (by kernel_rfl) (by kernel_rfl) (wanted_plain rfl) (.func (.func 79) #[] #[.pointer (some ⟨kv, 0, none⟩)]) (fun _ _ _ h => h) (fun W hW => run_move (by rfl) (by simp [Act.eval]) W) ?_
          simp only [Act.put, List.getElem_toArray, List.getElem_cons_succ, List.getElem_cons_zero, List.setIfInBounds_toArray, List.set_cons_zero, List.set_cons_succ]
          refine x_one 2 (by kernel_rfl) (fun W hW _ => ?_)
          refine op_callV (o := _) rfl (wanted_plain rfl) _ _ _ rfl 79 #[.pointer (some ⟨kv, 0, none⟩)] #[.int .i64 4, .pointer (some ⟨kv, 0, none⟩)] (by simp [Act.eval]) (by simp [Act.eval]) (Cha.enter_two _) ?_
          refine (Cha.two_any kw kv 8 4 k Lk.out (by omega) (by omega) W hW.po.bv hW.po.bw).mono ?_
          rintro e W5 ⟨rfl, hE⟩
          refine ⟨_, rfl, NextX.mk (fun W => Cha.Pp w kw kv k rb r s pb q W) (fun _ => True) (fun _ h => h) (hW.next hE) trivial ?_⟩
          clear hE hW
          simp only [Act.put, List.getElem_toArray, List.getElem_cons_succ, List.getElem_cons_zero, List.setIfInBounds_toArray, List.set_cons_zero, List.set_cons_succ]
          refine x_one 4 (by kernel_rfl) (fun W hW _ => ?_)
          refine op_callV (o := _) rfl (wanted_plain rfl) _ _ _ rfl 79 #[.pointer (some ⟨kv, 0, none⟩)] #[.int .i64 6, .pointer (some ⟨kv, 0, none⟩)] (by simp [Act.eval]) (by simp [Act.eval]) (Cha.enter_two _) ?_
          refine (Cha.two_any kw kv 8 6 k Lk.out (by omega) (by omega) W hW.po.bv hW.po.bw).mono ?_
          rintro e W5 ⟨rfl, hE⟩
          refine ⟨_, rfl, NextX.mk (fun W => Cha.Pp w kw kv k rb r s pb q W) (fun _ => True) (fun _ h => h) (hW.next hE) trivial ?_⟩
          clear hE hW
          simp only [Act.put, List.getElem_toArray, List.getElem_cons_succ, List.getElem_cons_zero, List.setIfInBounds_toArray, List.set_cons_zero, List.set_cons_succ]
          refine x_one 5 (by kernel_rfl) (fun W hW _ => ?_)
          refine op_call (o := _) rfl (wanted_plain rfl) 80 _ _ rfl #[.agg q.cells, .int .u64 ((n64 (Cha.two k 4) : Nat) : Int), .int .u64 ((n64 (Cha.two k 6) : Nat) : Int), .int .u64 0] (by simp [Act.eval]) (Cha.enter_plus _) ?_
          refine (Cha.plus_any q (Cha.two k 4) (Cha.two k 6) 0 W).mono ?_
          rintro e W5 ⟨rfl, hE⟩
          rw [Hf.out]
          refine ⟨_, rfl, NextX.mk (fun W => Cha.Pp w kw kv k rb r s pb q W) (fun _ => True) (fun _ h => h) (hW.next hE) trivial ?_⟩
          clear hE hW
          simp only [Act.put, List.getElem_toArray, List.getElem_cons_succ, List.getElem_cons_zero, List.setIfInBounds_toArray, List.set_cons_zero, List.set_cons_succ]
          refine x_last (by kernel_rfl) (by kernel_rfl) (fun W hW _ => ?_) _
          refine op_skip (o := _) rfl (wanted_plain rfl) _ (Cha.run_store3 (by rfl) pb f (by simp [Act.eval]) (by simp [Act.eval]) 150 q.cells hW.bp rfl) ?_
          have H := hW.put f
          clear hW
          simp only [Act.put, List.getElem_toArray, List.getElem_cons_succ, List.getElem_cons_zero, List.setIfInBounds_toArray, List.set_cons_zero, List.set_cons_succ]
          obtain ⟨W6, HW6⟩ : ∃ W6, W6 = W.setRow pb f.cells := ⟨_, rfl⟩
          rw [← HW6] at H ⊢
          clear HW6
          obtain ⟨z, Hz⟩ : ∃ z, Hd (W6.heap.size = z) := ⟨_, ⟨rfl⟩⟩
          have hz : w.heap.size + 1 < z := by rw [← Hz.out]; exact H.po.bo.lt
          go_wp2_with (refine wpl_alloc rfl 87 rfl _ Cha.zero16 ?_; rw [Hz.out]; refine wpl_name (fun W => Cha.Pp w kw kv k rb r s pb f W ∧ Blk W z 87 (arr (List.replicate 16 0))) ⟨H.next ((Below.refl _ _).alloc (Nat.le_refl _) _), Blk.nu Hz.out.symm⟩ ?_; clear H; rintro W7 ⟨H, bz⟩)
          go_loopw [85] (fun i wr => ∃ j : Nat, j ≤ 16 ∧ i = .int .i64 (j : Int) ∧ Cha.Pp w kw kv k rb r s pb f wr ∧ Blk wr z 87 (arr (Cha.outTo f j))) (fun i _ => 16 - (intOf i).toNat)
          case atStart => exact ⟨0, by omega, rfl, H, by rw [Cha.outTo_none]; exact bz⟩
          case round =>
            clear H bz
            obtain ⟨j, hj, rfl, H, bz⟩ := hrel
            by_cases hlj : j < 16
            · have tj : (j : Int) < 16 := by omega
              obtain ⟨q2, Hq2⟩ : ∃ q, Hd (j / 8 = q) := ⟨_, ⟨rfl⟩⟩
              obtain ⟨m2, Hm2⟩ : ∃ m, Hd (j % 8 = m) := ⟨_, ⟨rfl⟩⟩
              have eq_ : (j : Int) / 8 = (q2 : Int) := by have := Hq2.out; omega
              have em : (j : Int) % 8 = (m2 : Int) := by have := Hm2.out; omega
              have Bq : q2 < 3 := by have := Hq2.out; omega
              have Bm : m2 < 8 := by have := Hm2.out; omega
              have tq : (q2 : Int) < 3 := by omega
              obtain ⟨E, HE⟩ : ∃ E, Hd (8 * m2 = E) := ⟨_, ⟨rfl⟩⟩
              have eE : (8 : Int) * (m2 : Int) = (E : Int) := by have := HE.out; omega
              have wE : IntKind.i64.wrap (E : Int) = (E : Int) := IntWalk.i64_in _ (by have := HE.out; omega)
              have Hnx := hd (show Cha.outTo f (j + 1) = (Cha.outTo f j).set j (shr64 (Cha.dig f q2) E).toUInt8 by rw [← Cha.outTo_next, Hq2.out, Hm2.out, HE.out])
              have c1 : wr.cell? ⟨pb, q2, none⟩ = some (.int .u64 ((n64 (Cha.dig f q2) : Nat) : Int)) := (H.bp.cell q2).trans (Cha.dig_cell f q2 Bq)
              have c3 := bz.arr_cell j (by rw [Cha.outTo_len]; exact hlj)
              have f3 := bz.frozen j
              have H9 : Cha.Pp w kw kv k rb r s pb f (wr.setCell ⟨z, j, none⟩ (.int .u8 ((n8 (shr64 (Cha.dig f q2) E).toUInt8 : Nat) : Int))) :=
                ⟨⟨H.po.bw.far (H.po.bw.ne_ bz (by decide)) _, H.po.bv.far (H.po.bv.ne_ bz (by decide)) _, H.po.bo.far (by simp only []; omega) _, H.po.old.setCell (by simp only []; omega) _⟩, H.br.far (H.br.ne_ bz (by decide)) _, H.bp.far (H.bp.ne_ bz (by decide)) _, H.lo⟩
              go_wp2
              go_roundw
              case rel => exact ⟨j + 1, by omega, by go_num, H9, by rw [Hnx.out]; exact bz.arr_set _ _⟩
              case measure => simp [intOf]; omega
            · have ej : j = 16 := by omega
              subst ej
              have tj : ¬ ((16 : Nat) : Int) < 16 := by omega
              obtain ⟨r2, Hr2⟩ : ∃ r, Hd (Cha.outTo f 16 = r) := ⟨_, ⟨rfl⟩⟩
              have Lr := hd (show r2.length = 16 by rw [← Hr2.out, Cha.outTo_len])
              have Hfin := hd (show Cha.poly key text = r2 by rw [← Hr2.out, Hsum.out, Cha.outTo_all])
              rw [Hr2.out] at bz
              go_wp2_with (first | (refine wpl_load_arr rfl 87 _ rfl _ rfl 16 Cha.agg16 r2 Lr.out bz.cells_arr ?_) | (refine wpl_store_arr rfl 87 _ _ rfl (w.heap.size + 1) r2 rfl rfl 87 _ H.po.bo 16 Cha.agg16.size Lr.out (by rw [arr_size, List.length_replicate]) ?_))
              rw [Hfin.out]
              exact ret_arr rfl (w.heap.size + 1) rfl Cha.agg16 r2 Lr.out (H.po.bo.setRow _).cells_arr rfl ⟨rfl, below_setRow H.po.old (by omega) _⟩
end Go.Proofs.YthigbggacgiamaaDoor
