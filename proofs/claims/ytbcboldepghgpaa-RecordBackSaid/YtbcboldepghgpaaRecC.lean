/-
  The walks of record's put and Write.
-/
import Derived.Test.YtbcboldepghgpaaRecB
import Derived.Test.YtbcboldepghgpaaJa
import Derived.Test.YtbcboldepghgpaaChaJ
set_option linter.unusedVariables false
set_option linter.unusedSimpArgs false
set_option maxRecDepth 100000
namespace Go.Proofs.Ytbcboldepghgpaa
open Go.RowKit
namespace Rec
def textOf (b : List UInt8) (t : UInt8) (pad : Nat) : List UInt8 := b ++ [t] ++ List.replicate (min pad (16384 - b.length)) 0
theorem textOf_len (b : List UInt8) (t : UInt8) (pad : Nat) : (textOf b t pad).length = b.length + 1 + min pad (16384 - b.length) := by
  simp [textOf]
  omega
/-- A locked record. -/
def recOf (s : UInt16) (key iv : List UInt8) (seq : UInt64) (t : UInt8) (b : List UInt8) (pad : Nat) : List UInt8 :=
  hdr 23 ((textOf b t pad).length + 16) ++ sealOf s key (Suite.nonceOf iv seq) (hdr 23 ((textOf b t pad).length + 16)) (textOf b t pad)
theorem recOf_len (s : UInt16) (key iv : List UInt8) (seq : UInt64) (t : UInt8) (b : List UInt8) (pad : Nat) : (recOf s key iv seq t b pad).length = 5 + (b.length + 1 + min pad (16384 - b.length)) + 16 := by
  rw [recOf, List.length_append, hdr_len, sealOf_len, textOf_len]; omega
section
variable {P : Program} {w : World} {o : Oper} {ρ : Operand → Value} {x y : Operand} {t rt : TypeId}
theorem run_minI {ats : Array TypeId} (ho : o.op = .call { callee := .builtin .min, args := #[x, y], argTypes := ats }) (i j k : Int) (hx : ρ x = .int .i64 i) (hy : ρ y = .int .i64 j) (hk : k = min i j) : (execOp ρ o).run P w = .ok (.value (.int .i64 k)) w := by
  subst hk
  unfold execOp
  simp only [ho, resolve, invoke, builtin, List.map_toArray, List.map_cons, List.map_nil, hx, hy]
  by_cases h : j < i
  · simp [Builtin.min_, Builtin.min2, go_sem, h, Int.min_eq_right (Int.le_of_lt h)]
  · simp [Builtin.min_, Builtin.min2, go_sem, h, Int.min_eq_left (Int.not_lt.1 h)]
theorem run_nilCheck' (ho : o.op = .nilCheck x) {ad : Addr} (hx : ρ x = .pointer (some ad)) : (execOp ρ o).run P w = .ok (.value (.pointer (some ad))) w := by
  unfold execOp
  simp only [ho, hx]
  simp [go_sem]
theorem run_load_c {ty : TypeId} (hty : ((P.underlying ty).map isAggD) = some false) (ho : o.op = .load ty x) (ad : Addr) (v : Value) (hx : ρ x = .pointer (some ad)) (h : w.cell? ad = some v) : (execOp ρ o).run P w = .ok (.value v) w := by
  refine run_execOp_load ho hx ?_
  have hag : (isAgg ty).run P w = .ok false w := by
    cases hq : P.underlying ty with
    | none => simp [hq] at hty
    | some d =>
      unfold isAgg
      rw [Sem.run_bind, run_underlying hq w]
      rw [hq] at hty
      cases d <;> simp_all [isAggD]
  simp [loadVar, Sem.run_bind, hag, go_sem, h]
end
theorem field0 (z : Nat) (w : World) : (Instr.fieldAt 81 (.pointer (some ⟨z, 0, none⟩)) 0).run Try.prog w = .ok (.pointer (some ⟨z, 0, none⟩)) w := by kernel_rfl
theorem field1 (z : Nat) (w : World) : (Instr.fieldAt 81 (.pointer (some ⟨z, 0, none⟩)) 1).run Try.prog w = .ok (.pointer (some ⟨z, 1, none⟩)) w := by kernel_rfl
theorem field2 (z : Nat) (w : World) : (Instr.fieldAt 81 (.pointer (some ⟨z, 0, none⟩)) 2).run Try.prog w = .ok (.pointer (some ⟨z, 2, none⟩)) w := by kernel_rfl
theorem field3 (z : Nat) (w : World) : (Instr.fieldAt 81 (.pointer (some ⟨z, 0, none⟩)) 3).run Try.prog w = .ok (.pointer (some ⟨z, 14, none⟩)) w := by kernel_rfl
theorem grew_on {w W W' : World} {z g : Nat} (h : w.grownBy W (some z)) (hg : W.grownBy W' (some g)) (hlo : w.heap.size ≤ g) : w.grownBy W' (some z) :=
  ⟨hg.os.trans h.os, hg.tape.trans h.tape, hg.output.trans h.output, Nat.le_trans h.size hg.size, fun i hi hne => (hg.block i (Nat.lt_of_lt_of_le hi h.size) (by intro e; injection e; omega)).trans (h.block i hi hne)⟩
theorem grew_below {w W W' : World} {z : Nat} (h : w.grownBy W (some z)) (hb : Below W.heap.size W W') : w.grownBy W' (some z) :=
  ⟨hb.os.trans h.os, hb.tape.trans h.tape, hb.output.trans h.output, Nat.le_trans h.size hb.size, fun i hi hne => (hb.block i (Nat.lt_of_lt_of_le hi h.size)).trans (h.block i hi hne)⟩
theorem enter_nonce (args : Array Value) (w : World) : (callFunc 43 args).run Try.prog w = .ok (.enter 43 args) w := by kernel_rfl
theorem enter_seal (args : Array Value) (w : World) : (callFunc 9 args).run Try.prog w = .ok (.enter 9 args) w := by kernel_rfl
theorem na_suite : ((Try.prog.underlying 23).map isAggD) = some false := by kernel_rfl
theorem na_u64 : ((Try.prog.underlying 37).map isAggD) = some false := by kernel_rfl
theorem na_bytes : ((Try.prog.underlying 24).map isAggD) = some false := by kernel_rfl
/-- A locker's block and key, known by their places. -/
structure LkK (W : World) (g : Nat) (s : UInt16) (A : Option Addr) (c : Nat) (key iv : List UInt8) (seq : UInt64) : Prop where
  blk : Blk W g 81 (lkr s (.slice A key.length c) iv seq)
  own : OwnB W 0 (.slice A key.length c) key
  iv12 : iv.length = 12
section
variable {W W' : World} {g : Nat} {s : UInt16} {A : Option Addr} {c : Nat} {key iv : List UInt8} {seq : UInt64}
theorem LkK.next (h : LkK W g s A c key iv seq) (hb : Below W.heap.size W W') : LkK W' g s A c key iv seq := ⟨h.blk.below hb h.blk.lt, h.own.later hb, h.iv12⟩
theorem LkK.c0 (h : LkK W g s A c key iv seq) : W.cell? ⟨g, 0, none⟩ = some (.int .u16 ((n16 s : Nat) : Int)) := h.blk.cell 0
theorem LkK.c1 (h : LkK W g s A c key iv seq) : W.cell? ⟨g, 1, none⟩ = some (.slice A key.length c) := h.blk.cell 1
theorem LkK.c14 (h : LkK W g s A c key iv seq) : W.cell? ⟨g, 14, none⟩ = some (.int .u64 ((n64 seq : Nat) : Int)) := by
  rw [h.blk.cell]
  simp [lkr, h.iv12]
theorem LkK.civ (h : LkK W g s A c key iv seq) : Cells W ⟨g, 2, none⟩ (iv.map U8) := h.blk.cells_at 2 _ (fun j v hv => by
  have hj : j < (iv.map U8).length := by
    rcases Nat.lt_or_ge j (iv.map U8).length with h | h
    · exact h
    · rw [List.getElem?_eq_none h] at hv; cases hv
  simp only [lkr, List.getElem?_toArray]
  rw [show 2 + j = (j + 1) + 1 by omega, List.getElem?_cons_succ, List.getElem?_cons_succ, List.getElem?_append_left hj]
  exact hv)
theorem LkK.up (h : LkK W g s A c key iv seq) (q : UInt64) : LkK (W.setCell ⟨g, 14, none⟩ (.int .u64 ((n64 q : Nat) : Int))) g s A c key iv q :=
  ⟨by have := h.blk.set_ 14 (.int .u64 ((n64 q : Nat) : Int)); rw [lkr_set _ _ _ _ _ h.iv12] at this; exact this, h.own.far (own_blk_ne h.own.own h.blk (by decide)) _, h.iv12⟩
end
attribute [irreducible] textOf
/-- What put's walk holds. -/
structure Pt (w : World) (gl : Nat) (s : UInt16) (A : Option Addr) (c : Nat) (key iv : List UInt8) (seq : UInt64) (A3 : Option Addr) (L c3 : Nat) (tx : List UInt8) (hz : Nat) (head : List UInt8) (W : World) : Prop where
  lk : LkK W gl s A c key iv seq
  tx : OwnB W w.heap.size (.slice A3 L c3) tx
  hd : OwnB W w.heap.size (.slice (some ⟨hz, 0, none⟩) 5 5) head
  old : Below w.heap.size w W
theorem Pt.next {w W W' : World} {gl : Nat} {s : UInt16} {A : Option Addr} {c : Nat} {key iv : List UInt8} {seq : UInt64} {A3 : Option Addr} {L c3 : Nat} {tx : List UInt8} {hz : Nat} {head : List UInt8} (h : Pt w gl s A c key iv seq A3 L c3 tx hz head W) (hb : Below W.heap.size W W') : Pt w gl s A c key iv seq A3 L c3 tx hz head W' :=
  ⟨h.lk.next hb, h.tx.later hb, h.hd.later hb, h.old.trans (hb.mono h.old.size)⟩
end Rec
set_option maxHeartbeats 8000000 in
set_option maxRecDepth 100000 in
theorem Rec.put_any (n0 : Nat) (s : UInt16) (hs : Suite.Ok s n0) (A : Option Addr) (c : Nat) (key iv : List UInt8) (hk : key.length = n0) (seq lim : UInt64) (gw gl : Nat) (t : UInt8) (D : Option Addr) (n : Nat) (b : List UInt8) (pad : Nat) (w : World)
    (hw : Blk w gw 75 (Rec.wrc (.pointer (some ⟨gl, 0, none⟩)) lim)) (hl : Rec.LkK w gl s A c key iv seq) (hb : ReadsB w w.heap.size D n b) (hD : D = none → n = 0) (hn : n ≤ 16384) (hp : pad ≤ 255) :
    Calls Try.prog 38 #[.pointer (some ⟨gw, 0, none⟩), .slice none 0 0, .int .u8 ((n8 t : Nat) : Int), .slice D n n, .int .i64 (pad : Int)] w fun e w' => ∃ v, e = .returned v ∧ OwnB w' w.heap.size v (Rec.recOf s key iv seq t b pad) ∧ Rec.LkK w' gl s A c key iv (seq + 1) ∧ w.grownBy w' (some gl) := by
  have Hs := hd hs
  have Hk := hd hk
  have Hb := hd hb.len
  have Hsz := hd (show n ≤ 16384 ∧ pad ≤ 255 from ⟨hn, hp⟩)
  clear hs hk hp
  obtain ⟨R, HR⟩ : ∃ R, Hd (min pad (16384 - n) = R) := ⟨_, ⟨rfl⟩⟩
  have HRl := hd (show R ≤ 255 by rw [← HR.out]; have := Hsz.out; omega)
  have HRi := hd (show ((R : Nat) : Int) = min (pad : Int) (16384 - (n : Int)) by rw [← HR.out]; omega)
  have w1 : IntKind.i64.wrap (16384 - (n : Int)) = 16384 - (n : Int) := IntWalk.i64_in _ (by omega)
  obtain ⟨tx, Htx⟩ : ∃ x, Hd (Rec.textOf b t pad = x) := ⟨_, ⟨rfl⟩⟩
  have Ltx := hd (show tx.length = n + 1 + R by rw [← Htx.out, Rec.textOf_len, Hb.out, HR.out])
  have Htx2 := hd (show b ++ [t] ++ List.replicate R 0 = tx by rw [← Htx.out, ← HR.out, ← Hb.out]; unfold Rec.textOf; rfl)
  obtain ⟨L, HL⟩ : ∃ L, Hd (n + 1 + R = L) := ⟨_, ⟨rfl⟩⟩
  have HLl := hd (show L ≤ 16640 by rw [← HL.out]; have := HRl.out; omega)
  rw [HL.out] at Ltx
  obtain ⟨M, HM⟩ : ∃ M, Hd (L + 16 = M) := ⟨_, ⟨rfl⟩⟩
  have eM : (L : Int) + 16 = (M : Int) := by rw [← HM.out]; omega
  have wM : IntKind.i64.wrap (M : Int) = (M : Int) := IntWalk.i64_in _ (by have := HM.out; have := HLl.out; omega)
  obtain ⟨head, Hh⟩ : ∃ x, Hd (Rec.hdr 23 M = x) := ⟨_, ⟨rfl⟩⟩
  have Lh := hd (show head.length = 5 by rw [← Hh.out]; exact Rec.hdr_len _ _)
  obtain ⟨nc, Hnc⟩ : ∃ x, Hd (Suite.nonceOf iv seq = x) := ⟨_, ⟨rfl⟩⟩
  have Lnc := hd (show nc.length = 12 by rw [← Hnc.out, Suite.nonce_len, hl.iv12])
  obtain ⟨sd, Hsd⟩ : ∃ x, Hd (Rec.sealOf s key nc head tx = x) := ⟨_, ⟨rfl⟩⟩
  have Lsd := hd (show sd.length = L + 16 by rw [← Hsd.out, Rec.sealOf_len, Ltx.out])
  have Hfin := hd (show Rec.recOf s key iv seq t b pad = head ++ sd by unfold Rec.recOf; rw [Htx.out, Ltx.out, HM.out, Hh.out, Hnc.out, Hsd.out])
  have c0 : w.cell? ⟨gw, 0, none⟩ = some (.pointer (some ⟨gl, 0, none⟩)) := hw.cell 0
  have hB1 : Below w.heap.size w (w.alloc (.cells #[.int .u8 (n8 t)] 5)) := (Below.refl _ _).alloc (Nat.le_refl _) _
  have hr1 : ReadsB (w.alloc (.cells #[.int .u8 (n8 t)] 5)) (w.heap.size + 1) (some ⟨w.heap.size, 0, none⟩) 1 [t] := ReadsB.one _ _
  have hb1 : ReadsB (w.alloc (.cells #[.int .u8 (n8 t)] 5)) w.heap.size D n b := ⟨hb.len, hb.is.below hB1⟩
  have lim1 : n + 1 ≤ 140737488355328 := by omega
  go_enter Try.func38, Try.ntmps38
  go_wp2_with (first
    | (at_builtin; refine Cha.wpl_pad rfl _ _ rfl w.heap.size v1 (b ++ [t]) rfl own1 R rfl h2 l2 hB2.size ?_; rw [Htx2.out]; intro v3 W3 own3 gr3 at3; have hB3 := below_appended hB2 own1 gr3 (Nat.le_refl _) hB2.size; obtain ⟨A3, c3, e3⟩ := own3.slice; rw [Ltx.out] at e3; subst e3)
    | (refine wpl_run (o := ⟨some 38, _, _, _, _, _⟩) (wanted_plain rfl) (.int .i64 (R : Int)) (Rec.run_minI (by rfl) (pad : Int) (16384 - (n : Int)) (R : Int) (by simp [Act.eval, Act.put]) (by simp [Act.eval, Act.put, w1]) HRi.out) ?_)
    | (at_builtin; refine wpl_appendRO rfl _ _ rfl rfl rfl hb1 hD hr1 (Nat.succ_pos _) lim1 ?_; intro v1 W1 own0 gr1; have hB2 := below_new hB1 gr1 hB1.size; have own1 := own0.low (B' := w.heap.size) hB1.size; have h2 : 0 < (b ++ [t]).length ∨ R = 0 := (by rw [List.length_append]; simp); have l2 : (b ++ [t]).length + R ≤ 140737488355328 := (by rw [List.length_append, Hb.out]; have := HRl.out; simp; omega)))
  refine (Rec.begun_any 23 M (by have := HM.out; have := HLl.out; omega) _).mono ?_
  rintro e W4 ⟨rfl, own4, hE4⟩
  rw [Hh.out] at own4
  have hB4 := hB3.trans (hE4.mono hB3.size)
  have ownT := own3.later hE4
  have hl4 := hl.next hB4
  have hroom := own3.room
  obtain ⟨hz, Hhz⟩ : ∃ z, Hd (W3.heap.size = z) := ⟨_, ⟨rfl⟩⟩
  have hhz : w.heap.size ≤ hz := by rw [← Hhz.out]; exact hB3.size
  rw [Hhz.out] at own4
  have ownH := own4.low (B' := w.heap.size) hhz
  clear own0 gr1 hB2 own1 h2 l2 own3 gr3 at3 hB3 hE4 own4 hB1 hr1 hb1
  rw [Hhz.out]
  go_wp2
  refine p_start (Rec.Pt w gl s A c key iv seq A3 L c3 tx hz head) (by kernel_rfl) ((Rec.Pt.mk hl4 ownT ownH hB4).next (Below.refl _ _).drew) ?_
  clear hl4 ownT ownH hB4
  refine p_take 0 (o := _) rfl (by kernel_rfl) (by kernel_rfl) (by kernel_rfl) (wanted_plain rfl) (.pointer (some ⟨gl, 0, none⟩)) (fun _ _ _ h => h) (fun W hW => run_move (by rfl) (by simp [Act.eval]) W) ?_
  simp only [Act.put, List.getElem_toArray, List.getElem_cons_succ, List.getElem_cons_zero, List.setIfInBounds_toArray, List.set_cons_zero, List.set_cons_succ]
  refine p_take 1 (o := _) rfl (by kernel_rfl) (by kernel_rfl) (by kernel_rfl) (wanted_plain rfl) (.pointer (some ⟨gl, 0, none⟩)) (fun _ _ _ h => h) (fun W hW => Rec.run_nilCheck' (by rfl) (by simp [Act.eval])) ?_
  simp only [Act.put, List.getElem_toArray, List.getElem_cons_succ, List.getElem_cons_zero, List.setIfInBounds_toArray, List.set_cons_zero, List.set_cons_succ]
  refine p_take 2 (o := _) rfl (by kernel_rfl) (by kernel_rfl) (by kernel_rfl) (wanted_plain rfl) (.pointer (some ⟨gl, 0, none⟩)) (fun _ _ _ h => h) (fun W hW => run_fieldAddr (by rfl) (by simp [Act.eval]) (Rec.field0 _)) ?_
  simp only [Act.put, List.getElem_toArray, List.getElem_cons_succ, List.getElem_cons_zero, List.setIfInBounds_toArray, List.set_cons_zero, List.set_cons_succ]
  refine p_take 3 (o := _) rfl (by kernel_rfl) (by kernel_rfl) (by kernel_rfl) (wanted_plain rfl) (.int .u16 ((n16 s : Nat) : Int)) (fun _ _ _ h => h) (fun W hW => Rec.run_load_c Rec.na_suite (by rfl) _ _ (by simp [Act.eval]) hW.lk.c0) ?_
  simp only [Act.put, List.getElem_toArray, List.getElem_cons_succ, List.getElem_cons_zero, List.setIfInBounds_toArray, List.set_cons_zero, List.set_cons_succ]
  refine p_take 4 (o := _) rfl (by kernel_rfl) (by kernel_rfl) (by kernel_rfl) (wanted_plain rfl) (.pointer (some ⟨gl, 0, none⟩)) (fun _ _ _ h => h) (fun W hW => run_move (by rfl) (by simp [Act.eval]) W) ?_
  simp only [Act.put, List.getElem_toArray, List.getElem_cons_succ, List.getElem_cons_zero, List.setIfInBounds_toArray, List.set_cons_zero, List.set_cons_succ]
  refine p_take 5 (o := _) rfl (by kernel_rfl) (by kernel_rfl) (by kernel_rfl) (wanted_plain rfl) (.pointer (some ⟨gl, 0, none⟩)) (fun _ _ _ h => h) (fun W hW => Rec.run_nilCheck' (by rfl) (by simp [Act.eval])) ?_
  simp only [Act.put, List.getElem_toArray, List.getElem_cons_succ, List.getElem_cons_zero, List.setIfInBounds_toArray, List.set_cons_zero, List.set_cons_succ]
  refine p_take 6 (o := _) rfl (by kernel_rfl) (by kernel_rfl) (by kernel_rfl) (wanted_plain rfl) (.pointer (some ⟨gl, 1, none⟩)) (fun _ _ _ h => h) (fun W hW => run_fieldAddr (by rfl) (by simp [Act.eval]) (Rec.field1 _)) ?_
  simp only [Act.put, List.getElem_toArray, List.getElem_cons_succ, List.getElem_cons_zero, List.setIfInBounds_toArray, List.set_cons_zero, List.set_cons_succ]
  refine p_take 7 (o := _) rfl (by kernel_rfl) (by kernel_rfl) (by kernel_rfl) (wanted_plain rfl) (.slice A key.length c) (fun _ _ _ h => h) (fun W hW => Rec.run_load_c Rec.na_bytes (by rfl) _ _ (by simp [Act.eval]) hW.lk.c1) ?_
  simp only [Act.put, List.getElem_toArray, List.getElem_cons_succ, List.getElem_cons_zero, List.setIfInBounds_toArray, List.set_cons_zero, List.set_cons_succ]
  refine p_take 8 (o := _) rfl (by kernel_rfl) (by kernel_rfl) (by kernel_rfl) (wanted_plain rfl) (.pointer (some ⟨gl, 0, none⟩)) (fun _ _ _ h => h) (fun W hW => run_move (by rfl) (by simp [Act.eval]) W) ?_
  simp only [Act.put, List.getElem_toArray, List.getElem_cons_succ, List.getElem_cons_zero, List.setIfInBounds_toArray, List.set_cons_zero, List.set_cons_succ]
  refine p_take 9 (o := _) rfl (by kernel_rfl) (by kernel_rfl) (by kernel_rfl) (wanted_plain rfl) (.pointer (some ⟨gl, 0, none⟩)) (fun _ _ _ h => h) (fun W hW => Rec.run_nilCheck' (by rfl) (by simp [Act.eval])) ?_
  simp only [Act.put, List.getElem_toArray, List.getElem_cons_succ, List.getElem_cons_zero, List.setIfInBounds_toArray, List.set_cons_zero, List.set_cons_succ]
  refine p_take 10 (o := _) rfl (by kernel_rfl) (by kernel_rfl) (by kernel_rfl) (wanted_plain rfl) (.pointer (some ⟨gl, 2, none⟩)) (fun _ _ _ h => h) (fun W hW => run_fieldAddr (by rfl) (by simp [Act.eval]) (Rec.field2 _)) ?_
  simp only [Act.put, List.getElem_toArray, List.getElem_cons_succ, List.getElem_cons_zero, List.setIfInBounds_toArray, List.set_cons_zero, List.set_cons_succ]
  refine p_take 11 (o := _) rfl (by kernel_rfl) (by kernel_rfl) (by kernel_rfl) (wanted_plain rfl) (.agg (arr iv)) (fun _ _ _ h => h) (fun W hW => run_load_arr (by rfl) (by simp [Act.eval]) ty12 iv hW.lk.iv12 hW.lk.civ) ?_
  simp only [Act.put, List.getElem_toArray, List.getElem_cons_succ, List.getElem_cons_zero, List.setIfInBounds_toArray, List.set_cons_zero, List.set_cons_succ]
  refine p_take 12 (o := _) rfl (by kernel_rfl) (by kernel_rfl) (by kernel_rfl) (wanted_plain rfl) (.pointer (some ⟨gl, 0, none⟩)) (fun _ _ _ h => h) (fun W hW => run_move (by rfl) (by simp [Act.eval]) W) ?_
  simp only [Act.put, List.getElem_toArray, List.getElem_cons_succ, List.getElem_cons_zero, List.setIfInBounds_toArray, List.set_cons_zero, List.set_cons_succ]
  refine p_take 13 (o := _) rfl (by kernel_rfl) (by kernel_rfl) (by kernel_rfl) (wanted_plain rfl) (.pointer (some ⟨gl, 0, none⟩)) (fun _ _ _ h => h) (fun W hW => Rec.run_nilCheck' (by rfl) (by simp [Act.eval])) ?_
  simp only [Act.put, List.getElem_toArray, List.getElem_cons_succ, List.getElem_cons_zero, List.setIfInBounds_toArray, List.set_cons_zero, List.set_cons_succ]
  refine p_take 14 (o := _) rfl (by kernel_rfl) (by kernel_rfl) (by kernel_rfl) (wanted_plain rfl) (.pointer (some ⟨gl, 14, none⟩)) (fun _ _ _ h => h) (fun W hW => run_fieldAddr (by rfl) (by simp [Act.eval]) (Rec.field3 _)) ?_
  simp only [Act.put, List.getElem_toArray, List.getElem_cons_succ, List.getElem_cons_zero, List.setIfInBounds_toArray, List.set_cons_zero, List.set_cons_succ]
  refine p_take 15 (o := _) rfl (by kernel_rfl) (by kernel_rfl) (by kernel_rfl) (wanted_plain rfl) (.int .u64 ((n64 seq : Nat) : Int)) (fun _ _ _ h => h) (fun W hW => Rec.run_load_c Rec.na_u64 (by rfl) _ _ (by simp [Act.eval]) hW.lk.c14) ?_
  simp only [Act.put, List.getElem_toArray, List.getElem_cons_succ, List.getElem_cons_zero, List.setIfInBounds_toArray, List.set_cons_zero, List.set_cons_succ]
  refine p_take 17 (o := _) rfl (by kernel_rfl) (by kernel_rfl) (by kernel_rfl) (wanted_plain rfl) (.slice (some ⟨hz, 0, none⟩) 5 5) (fun _ _ _ h => h) (fun W hW => run_move (by rfl) (by simp [Act.eval]) W) ?_
  simp only [Act.put, List.getElem_toArray, List.getElem_cons_succ, List.getElem_cons_zero, List.setIfInBounds_toArray, List.set_cons_zero, List.set_cons_succ]
  refine p_take 18 (o := _) rfl (by kernel_rfl) (by kernel_rfl) (by kernel_rfl) (wanted_plain rfl) (.slice A3 L c3) (fun _ _ _ h => h) (fun W hW => run_move (by rfl) (by simp [Act.eval]) W) ?_
  simp only [Act.put, List.getElem_toArray, List.getElem_cons_succ, List.getElem_cons_zero, List.setIfInBounds_toArray, List.set_cons_zero, List.set_cons_succ]
  refine p_one 16 (by kernel_rfl) (fun W hW _ => ?_)
  refine op_call (o := _) rfl (wanted_plain rfl) 43 _ _ rfl #[.agg (arr iv), .int .u64 ((n64 seq : Nat) : Int)] (by simp [Act.eval]) (Rec.enter_nonce _) ?_
  refine (nonce_any iv hW.lk.iv12 seq W).mono ?_
  rintro e W5 ⟨rfl, hE⟩
  rw [Hnc.out]
  refine ⟨_, rfl, Next.mk (Rec.Pt w gl s A c key iv seq A3 L c3 tx hz head) (fun _ => True) (fun _ h => h) (hW.next hE) trivial ?_⟩
  clear hE hW
  simp only [Act.put, List.getElem_toArray, List.getElem_cons_succ, List.getElem_cons_zero, List.setIfInBounds_toArray, List.set_cons_zero, List.set_cons_succ]
  refine p_one 19 (by kernel_rfl) (fun W hW _ => ?_)
  refine op_call (o := _) rfl (wanted_plain rfl) 9 _ _ rfl #[.int .u16 ((n16 s : Nat) : Int), .slice A key.length c, .agg (arr nc), .slice (some ⟨hz, 0, none⟩) 5 5, .slice A3 L c3] (by simp [Act.eval]) (Rec.enter_seal _) ?_
  refine (suiteSeal_ok s key.length (by rw [Hk.out]; exact Hs.out) A c key nc Lnc.out (some ⟨hz, 0, none⟩) 5 5 head A3 L c3 tx W hW.lk.own.reads_any.2 (by have h := hW.hd.reads_any; exact h.2) (Nat.le_refl _) (by have h := hW.tx.reads_any; exact h.2) hroom (by have := HLl.out; omega)).mono ?_
  rintro e W6 ⟨v, rfl, own, hE⟩
  rw [Hsd.out] at own
  have own := own.low (B' := w.heap.size) hW.old.size
  refine ⟨_, rfl, Next.mk (fun W => Rec.Pt w gl s A c key iv seq A3 L c3 tx hz head W ∧ OwnB W w.heap.size v sd) (fun _ => True) (fun _ h => h.1) ⟨hW.next hE, own⟩ trivial ?_⟩
  clear hE hW own
  simp only [Act.put, List.getElem_toArray, List.getElem_cons_succ, List.getElem_cons_zero, List.setIfInBounds_toArray, List.set_cons_zero, List.set_cons_succ]
  refine p_take 20 (o := _) rfl (by kernel_rfl) (by kernel_rfl) (by kernel_rfl) (wanted_plain rfl) (.tuple #[v, .int .i64 0]) (fun _ _ _ h => h) (fun W hW => run_move (by rfl) (by simp [Act.eval]) W) ?_
  simp only [Act.put, List.getElem_toArray, List.getElem_cons_succ, List.getElem_cons_zero, List.setIfInBounds_toArray, List.set_cons_zero, List.set_cons_succ]
  refine p_take 21 (o := _) rfl (by kernel_rfl) (by kernel_rfl) (by kernel_rfl) (wanted_plain rfl) (v) (fun _ _ _ h => h) (fun W hW => run_extract (by rfl) #[v, .int .i64 0] v (by simp [Act.eval]) (by rfl)) ?_
  simp only [Act.put, List.getElem_toArray, List.getElem_cons_succ, List.getElem_cons_zero, List.setIfInBounds_toArray, List.set_cons_zero, List.set_cons_succ]
  refine p_take 22 (o := _) rfl (by kernel_rfl) (by kernel_rfl) (by kernel_rfl) (wanted_plain rfl) (.int .i64 0) (fun _ _ _ h => h) (fun W hW => run_extract (by rfl) #[v, .int .i64 0] (.int .i64 0) (by simp [Act.eval]) (by rfl)) ?_
  simp only [Act.put, List.getElem_toArray, List.getElem_cons_succ, List.getElem_cons_zero, List.setIfInBounds_toArray, List.set_cons_zero, List.set_cons_succ]
  refine p_take 23 (o := _) rfl (by kernel_rfl) (by kernel_rfl) (by kernel_rfl) (wanted_plain rfl) (v) (fun _ _ _ h => h) (fun W hW => run_assign (by rfl) (by simp [Act.eval]) W) ?_
  simp only [Act.put, List.getElem_toArray, List.getElem_cons_succ, List.getElem_cons_zero, List.setIfInBounds_toArray, List.set_cons_zero, List.set_cons_succ]
  refine p_take 24 (o := _) rfl (by kernel_rfl) (by kernel_rfl) (by kernel_rfl) (wanted_plain rfl) (.int .i64 0) (fun _ _ _ h => h) (fun W hW => run_assign (by rfl) (by simp [Act.eval]) W) ?_
  simp only [Act.put, List.getElem_toArray, List.getElem_cons_succ, List.getElem_cons_zero, List.setIfInBounds_toArray, List.set_cons_zero, List.set_cons_succ]
  refine (show ∀ n, wpAnyV _ _ _ _ _ _ n _ _ _ from fun n => p_done (by kernel_rfl) (fun W7 H => ?_) n) _
  obtain ⟨H, own⟩ := H
  have c14 := H.lk.c14
  have f14 := H.lk.blk.frozen 14
  have hl8 := H.lk.up (seq + 1)
  obtain ⟨W8, HW8⟩ : ∃ W8, Hd (W7.setCell ⟨gl, 14, none⟩ (.int .u64 ((n64 (seq + 1) : Nat) : Int)) = W8) := ⟨_, ⟨rfl⟩⟩
  rw [HW8.out] at hl8
  have hgl : 5 ≠ 81 := by decide
  have ownH8 : OwnB W8 w.heap.size (.slice (some ⟨hz, 0, none⟩) 5 5) head := by rw [← HW8.out]; exact H.hd.far (own_blk_ne H.hd.own H.lk.blk hgl) _
  have ownS8 : OwnB W8 w.heap.size v sd := by rw [← HW8.out]; exact own.far (own_blk_ne own.own H.lk.blk hgl) _
  have hg8 : w.grownBy W8 (some gl) := by
    rw [← HW8.out]
    exact grew_setCell ⟨H.old.os, H.old.tape, H.old.output, H.old.size, fun i hi _ => H.old.block i hi⟩ 14 _
  have hB8 : w.heap.size ≤ W8.heap.size := hg8.size
  clear H own
  obtain ⟨A6, c6, e6⟩ := ownS8.slice
  rw [Lsd.out] at e6
  subst e6
  have hrH : ReadsB W8 W8.heap.size (some ⟨hz, 0, none⟩) 5 head := ownH8.reads_any.2
  have hrS : ReadsB W8 W8.heap.size A6 (L + 16) sd := ownS8.reads_any.2
  have l5 : ([] : List UInt8).length + head.length ≤ 140737488355328 := by rw [Lh.out]; simp
  go_wp2_with (first
    | (at_builtin; refine wpl_appendB rfl _ _ rfl w.heap.size v9 head rfl own9 W8.heap.size A6 (L + 16) c6 sd rfl hrS9 l6 hB9 ?_; intro v10 W10 own10 gr10 at10)
    | (at_builtin; rw [HW8.out]; refine wpl_appendB rfl _ _ rfl w.heap.size (.slice none 0 0) [] rfl (OwnB.nil _ _) W8.heap.size (some ⟨hz, 0, none⟩) 5 5 head rfl hrH l5 hB8 ?_; intro v9 W9 own9 gr9 at9; rw [List.nil_append] at own9; have hE9 : Below W8.heap.size W8 W9 := below_new (Below.refl _ _) gr9 (Nat.le_refl _); have hrS9 : ReadsB W9 W8.heap.size A6 (L + 16) sd := ⟨hrS.len, hrS.is.below hE9⟩; have l6 : head.length + sd.length ≤ 140737488355328 := (by rw [Lh.out, Lsd.out]; have := HLl.out; omega); have hB9 := Nat.le_trans hB8 hE9.size))
  obtain ⟨g9, cap9, e9, hg9, _, _⟩ := own9.form (by rw [Lh.out]; omega)
  subst e9
  have gr10' : W9.grownBy W10 (some g9) := gr10
  have hl9 := hl8.next hE9
  have hkey : (Value.slice A key.length c).ownBlock ≠ some g9 := by
    rcases hl.own.size with h | ⟨g, h, _, hlt⟩
    · rw [h]; intro e; cases e
    · rw [h]; intro e; injection e; omega
  have hl10 : Rec.LkK W10 gl s A c key iv (seq + 1) := ⟨hl9.blk.appended own9 gr10 (by decide), hl9.own.moved gr10' hkey, hl9.iv12⟩
  have hg10 := Rec.grew_on (Rec.grew_below hg8 hE9) gr10' hg9
  go_ret
  exact ⟨v10, rfl, by rw [Hfin.out]; exact own10, hl10, hg10⟩
end Go.Proofs.Ytbcboldepghgpaa
