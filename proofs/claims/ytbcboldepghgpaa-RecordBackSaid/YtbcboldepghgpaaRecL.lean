/-
  The walks of record's Reader.Key, of layer 18's contents and pairs.
-/
import Derived.Test.YtbcboldepghgpaaRecK
import Derived.Test.YtbcboldepghgpaaRecEnds
set_option linter.unusedVariables false
set_option linter.unusedSimpArgs false
set_option maxRecDepth 100000
namespace Go.Proofs.Ytbcboldepghgpaa
open Go.RowKit
set_option maxHeartbeats 4000000 in
set_option maxRecDepth 100000 in
theorem Rec.rkey_any (s : UInt16) (n : Nat) (hs : Suite.Ok s n) (A : Option Addr) (c : Nat) (key iv : List UInt8) (hiv : iv.length = 12) (gr : Nat) (L0 H : Value) (skip : Int) (quiet : Bool) (w : World) (hr : ReadsB w w.heap.size A n key) (hw : Blk w gr 84 (Rec.rdc L0 H skip quiet 0)) :
    Calls Try.prog 39 #[.pointer (some ⟨gr, 0, none⟩), .int .u16 ((n16 s : Nat) : Int), .slice A n c, .agg (arr iv)] w fun e w' => e = .returned (.int .i64 0) ∧ (∃ gl Ak ck, Rec.RdAt w' gr gl H skip quiet s Ak ck key iv 0 ∧ w.heap.size ≤ gl) ∧ w.grownBy w' (some gr) := by
  have Hs := hd hs
  have Hiv := hd hiv
  clear hs
  have hB0 := (Below.refl w.heap.size w).alloc (Nat.le_refl _) (.cells (arr iv) 25)
  have b0 : Blk (w.alloc (.cells (arr iv) 25)) w.heap.size 25 (arr iv) := Blk.nu rfl
  go_enter Try.func39, Try.ntmps39
  go_wp2_with (refine wpl_load_arr rfl 25 _ rfl _ rfl 12 ty12 iv Hiv.out b0.cells_arr ?_)
  refine (Rec.made_ok s n Hs.out A c key iv Hiv.out _ (hr.onward hB0)).mono ?_
  rintro e W1 ⟨gl, rfl, lk, hE⟩
  have hB1 := hB0.trans (hE.mono hB0.size)
  have w1 := hw.below hB1 hw.lt
  have hlo := lk.lo
  simp only [World.size_alloc] at hlo
  have c0 : W1.cell? ⟨gr, 0, none⟩ = some L0 := w1.cell 0
  have f0 := w1.frozen 0
  obtain ⟨⟨Ak, ck, lb, lo⟩, l12, _⟩ := lk
  have w3 : Blk (W1.setCell ⟨gr, 0, none⟩ (.pointer (some ⟨gl, 0, none⟩))) gr 84 (Rec.rdc (.pointer (some ⟨gl, 0, none⟩)) H skip quiet 0) := w1.set_ 0 _
  have l3 : Rec.LkK (W1.setCell ⟨gr, 0, none⟩ (.pointer (some ⟨gl, 0, none⟩))) gl s Ak ck key iv 0 := ⟨lb.far (p := ⟨gr, 0, none⟩) (lb.ne_ w1 (by decide)) _, lo.far (own_blk_ne lo.own w1 (by decide)) _, l12⟩
  have hg := grew_setCell (below_grown hB1 gr) 0 (.pointer (some ⟨gl, 0, none⟩))
  clear lb lo hE hB1 hw hr b0
  go_wp2
  go_ret
  exact ⟨rfl, ⟨gl, Ak, ck, ⟨w3, l3⟩, by omega⟩, hg⟩
theorem Rec.run_cont {P : Program} {w : World} {o : Oper} {ρ : Operand → Value} {x y : Operand} {t rt : TypeId} (ho : o.op = .binOp .add t x y rt) (v : UInt8) (hx : ρ x = .int .u8 21) (hy : ρ y = .int .u8 ((n8 v : Nat) : Int)) : (execOp ρ o).run P w = .ok (.value (.int .u8 ((n8 (21 + v) : Nat) : Int))) w := by
  unfold execOp
  simp only [ho, hx, hy]
  simp [go_sem]
theorem Rec.content_any (t : UInt8) (w : World) : Calls Try.prog 21 #[.int .u8 ((n8 t : Nat) : Int)] w fun e w' => e = .returned (.int .u8 ((n8 (21 + t % 3) : Nat) : Int)) ∧ Below w.heap.size w w' := by
  go_enter Try.func21, Try.ntmps21
  go_wp2_with (first
    | (refine wpl_run (o := ⟨some 4, _, _, _, _, _⟩) (wanted_plain rfl) (.int .u8 ((n8 (t % 3) : Nat) : Int)) (Rec.run_rem8 (by rfl) t 3 (by decide) (by simp [Act.eval, Act.put]) (by rfl)) ?_)
    | (refine wpl_run (o := ⟨some 5, _, _, _, _, _⟩) (wanted_plain rfl) (.int .u8 ((n8 (21 + t % 3) : Nat) : Int)) (Rec.run_cont (by rfl) _ (by simp [Act.eval, Act.put]) (by simp [Act.eval, Act.put])) ?_))
  go_ret
  exact ⟨rfl, Below.refl _ _⟩
theorem Rec.enter_rkey (args : Array Value) (w : World) : (callFunc 39 args).run Try.prog w = .ok (.enter 39 args) w := by kernel_rfl
theorem Rec.run_eqlI {P : Program} {w : World} {o : Oper} {ρ : Operand → Value} {x y : Operand} {t rt : TypeId} (ho : o.op = .binOp .eql t x y rt) (i j : Int) (hx : ρ x = .int .i64 i) (hy : ρ y = .int .i64 j) (b : Bool) (hb : (i == j) = b) : (execOp ρ o).run P w = .ok (.value (.bool b)) w := by
  subst hb
  unfold execOp
  simp only [ho, hx, hy]
  simp [go_sem]
set_option maxHeartbeats 16000000 in
set_option maxRecDepth 100000 in
theorem Rec.both_any (call : Int) (A : Option Addr) (n c : Nat) (b : List UInt8) (s0 : UInt16) (n0 : Nat) (hok : Suite.Ok (Rec.suiteOf s0) n0) (t N : Int) (w : World) (hr : ReadsB w w.heap.size A n b) (hn : n ≤ 9223372036854775807) :
    Calls Try.prog 20 #[.bool false, .agg (Rec.opc call (.slice A n c) s0 t N)] w fun e w' => ∃ gw gr glw Aw cw glr Ar cr, e = .returned (.tuple #[.pointer (some ⟨gw, 0, none⟩), .pointer (some ⟨gr, 0, none⟩), .bool true]) ∧
      Blk w' gw 75 (Rec.wrc (.pointer (some ⟨glw, 0, none⟩)) (Suite.limit (Rec.suiteOf s0))) ∧ Rec.LkK w' glw (Rec.suiteOf s0) Aw cw (Rec.keyOf n0 b) (Rec.ivOf b) 0 ∧ Rec.RdAt w' gr glr (.slice none 0 0) 0 false (Rec.suiteOf s0) Ar cr (Rec.keyOf n0 b) (Rec.ivOf b) 0 ∧
      w.heap.size ≤ gw ∧ w.heap.size ≤ gr ∧ w.heap.size ≤ glw ∧ w.heap.size ≤ glr ∧ glw ≠ glr ∧ Below w.heap.size w w' := by
  obtain ⟨s, Hs⟩ : ∃ x, Hd (Rec.suiteOf s0 = x) := ⟨_, ⟨rfl⟩⟩
  rw [Hs.out] at hok ⊢
  have Hok := hd hok
  clear hok
  obtain ⟨K, HK⟩ : ∃ x, Hd (Rec.keyOf n0 b = x) := ⟨_, ⟨rfl⟩⟩
  have LK := hd (show K.length = n0 by rw [← HK.out, Rec.keyOf_len])
  obtain ⟨V, HV⟩ : ∃ x, Hd (Rec.ivOf b = x) := ⟨_, ⟨rfl⟩⟩
  have LV := hd (show V.length = 12 by rw [← HV.out, Rec.ivOf_len])
  rw [HK.out, HV.out]
  have hB1 : Below w.heap.size w (w.alloc (.cells (Rec.opc call (.slice A n c) s0 t N) 34)) := (Below.refl _ _).alloc (Nat.le_refl _) _
  have b1 : Blk (w.alloc (.cells (Rec.opc call (.slice A n c) s0 t N) 34)) w.heap.size 34 (Rec.opc call (.slice A n c) s0 t N) := Blk.nu rfl
  go_enter Try.func20, Try.ntmps20
  go_wp2_with fail
  refine (Rec.newWriter_any _).mono ?_
  rintro e W2 ⟨rfl, e2⟩
  obtain ⟨gw, Hgw⟩ : ∃ z, Hd ((w.alloc (.cells (Rec.opc call (.slice A n c) s0 t N) 34)).heap.size = z) := ⟨_, ⟨rfl⟩⟩
  have hgw : w.heap.size < gw := by rw [← Hgw.out]; simp
  have bw : Blk W2 gw 75 (Rec.wrc (.pointer none) 0) := by rw [e2]; exact Blk.nu Hgw.out.symm
  have hE2 : Below (w.alloc (.cells (Rec.opc call (.slice A n c) s0 t N) 34)).heap.size (w.alloc (.cells (Rec.opc call (.slice A n c) s0 t N) 34)) W2 := by rw [e2]; exact (Below.refl _ _).alloc (Nat.le_refl _) _
  have b2 := b1.below hE2 b1.lt
  have hB2 := hB1.trans (hE2.mono hB1.size)
  clear b1 hB1 hE2 e2
  rw [Hgw.out]
  go_wp2_with fail
  refine (Rec.newReader_any W2).mono ?_
  rintro e W3 ⟨rfl, e3⟩
  obtain ⟨gr, Hgr⟩ : ∃ z, Hd (W2.heap.size = z) := ⟨_, ⟨rfl⟩⟩
  have hgr : w.heap.size < gr := by rw [← Hgr.out]; exact b2.lt
  have br : Blk W3 gr 84 (Rec.rdc (.pointer none) (.slice none 0 0) 0 false 0) := by rw [e3]; exact Blk.nu Hgr.out.symm
  have hE3 : Below W2.heap.size W2 W3 := by rw [e3]; exact (Below.refl _ _).alloc (Nat.le_refl _) _
  have b2 := b2.below hE3 b2.lt
  have bw := bw.below hE3 bw.lt
  have hB2 := hB2.trans (hE3.mono hB2.size)
  clear hE3 e3
  rw [Hgr.out]
  have c2 : W3.cell? ⟨w.heap.size, 2, none⟩ = some (.int .u16 ((n16 s0 : Nat) : Int)) := b2.cell 2
  have c4 : W3.cell? ⟨w.heap.size, 4, none⟩ = some (.int .i64 N) := b2.cell 4
  have f2 := b2.frozen 2
  have f4 := b2.frozen 4
  have b3 : Blk ((W3.setCell ⟨w.heap.size, 4, none⟩ (.int .i64 0)).setCell ⟨w.heap.size, 2, none⟩ (.int .u16 ((n16 s : Nat) : Int))) w.heap.size 34 (Rec.opc call (.slice A n c) s t 0) := (b2.set_ 4 _).set_ 2 _
  have bw3 := (bw.far (p := ⟨w.heap.size, 4, none⟩) (by simp only []; omega) (.int .i64 0)).far (p := ⟨w.heap.size, 2, none⟩) (by simp only []; omega) (.int .u16 ((n16 s : Nat) : Int))
  have br3 := (br.far (p := ⟨w.heap.size, 4, none⟩) (by simp only []; omega) (.int .i64 0)).far (p := ⟨w.heap.size, 2, none⟩) (by simp only []; omega) (.int .u16 ((n16 s : Nat) : Int))
  have hB3 := (hB2.setCell (p := ⟨w.heap.size, 4, none⟩) (Nat.le_refl _) (.int .i64 0)).setCell (p := ⟨w.heap.size, 2, none⟩) (Nat.le_refl _) (.int .u16 ((n16 s : Nat) : Int))
  clear b2 bw br hB2
  go_wp2_with (first
    | (refine wpl_run (o := ⟨some 26, _, _, _, _, _⟩) (wanted_plain rfl) (.int .u16 ((n16 (s0 % 3) : Nat) : Int)) (Rec.run_rem16 (by rfl) s0 (by simp [Act.eval, Act.put]) (by simp [Act.eval, Act.put])) ?_)
    | (refine wpl_run (o := ⟨some 27, _, _, _, _, _⟩) (wanted_plain rfl) (.int .u16 ((n16 s : Nat) : Int)) (by rw [← Hs.out]; exact Rec.run_suite (by rfl) s0 (by simp [Act.eval, Act.put]) (by simp [Act.eval, Act.put])) ?_))
  obtain ⟨W4, HW4⟩ : ∃ x, Hd ((W3.setCell ⟨w.heap.size, 4, none⟩ (.int .i64 0)).setCell ⟨w.heap.size, 2, none⟩ (.int .u16 ((n16 s : Nat) : Int)) = x) := ⟨_, ⟨rfl⟩⟩
  rw [HW4.out] at b3 bw3 br3 hB3 ⊢
  clear HW4 c2 c4 f2 f4
  refine v_start (S := PW) PR ((fun W => Blk W w.heap.size 34 (Rec.opc call (.slice A n c) s t 0) ∧ Below w.heap.size w W), fun W => Blk W gw 75 (Rec.wrc (.pointer none) 0) ∧ Blk W gr 84 (Rec.rdc (.pointer none) (.slice none 0 0) 0 false 0)) (by kernel_rfl) ⟨⟨b3.drew, hB3.drew⟩, bw3.drew, br3.drew⟩ ?_
  clear b3 hB3 bw3 br3
  refine p_take 0 (o := _) rfl (by kernel_rfl) (by kernel_rfl) (by kernel_rfl) (wanted_plain rfl) (.pointer (some ⟨gw, 0, none⟩)) (fun _ _ _ h => h) (fun W hW => run_move (by rfl) (by simp [Act.eval]) W) ?_
  simp only [Act.put, List.getElem_toArray, List.getElem_cons_succ, List.getElem_cons_zero, List.setIfInBounds_toArray, List.set_cons_zero, List.set_cons_succ]
  refine p_take 1 (o := _) rfl (by kernel_rfl) (by kernel_rfl) (by kernel_rfl) (wanted_plain rfl) (.pointer (some ⟨gr, 0, none⟩)) (fun _ _ _ h => h) (fun W hW => run_move (by rfl) (by simp [Act.eval]) W) ?_
  simp only [Act.put, List.getElem_toArray, List.getElem_cons_succ, List.getElem_cons_zero, List.setIfInBounds_toArray, List.set_cons_zero, List.set_cons_succ]
  refine p_take 2 (o := _) rfl (by kernel_rfl) (by kernel_rfl) (by kernel_rfl) (wanted_plain rfl) (.pointer (some ⟨gw, 0, none⟩)) (fun _ _ _ h => h) (fun W hW => run_move (by rfl) (by simp [Act.eval]) W) ?_
  simp only [Act.put, List.getElem_toArray, List.getElem_cons_succ, List.getElem_cons_zero, List.setIfInBounds_toArray, List.set_cons_zero, List.set_cons_succ]
  refine p_take 3 (o := _) rfl (by kernel_rfl) (by kernel_rfl) (by kernel_rfl) (wanted_plain rfl) (.int .u16 ((n16 s : Nat) : Int)) (fun _ _ _ h => h) (fun W hW => run_move (by rfl) (by simp [Act.eval]) W) ?_
  simp only [Act.put, List.getElem_toArray, List.getElem_cons_succ, List.getElem_cons_zero, List.setIfInBounds_toArray, List.set_cons_zero, List.set_cons_succ]
  refine p_take 4 (o := _) rfl (by kernel_rfl) (by kernel_rfl) (by kernel_rfl) (wanted_plain rfl) (.agg (Rec.opc call (.slice A n c) s t 0)) (fun _ _ _ h => h) (fun W hW => Rec.run_loadOp (by rfl) w.heap.size call (.slice A n c) s t 0 (by simp [Act.eval]) hW.1) ?_
  simp only [Act.put, List.getElem_toArray, List.getElem_cons_succ, List.getElem_cons_zero, List.setIfInBounds_toArray, List.set_cons_zero, List.set_cons_succ]
  refine p_take 6 (o := _) rfl (by kernel_rfl) (by kernel_rfl) (by kernel_rfl) (wanted_plain rfl) (.agg (Rec.opc call (.slice A n c) s t 0)) (fun _ _ _ h => h) (fun W hW => Rec.run_loadOp (by rfl) w.heap.size call (.slice A n c) s t 0 (by simp [Act.eval]) hW.1) ?_
  simp only [Act.put, List.getElem_toArray, List.getElem_cons_succ, List.getElem_cons_zero, List.setIfInBounds_toArray, List.set_cons_zero, List.set_cons_succ]
  refine p_one 5 (by kernel_rfl) (fun W hW hX => ?_)
  refine op_call (o := _) rfl (wanted_plain rfl) 16 _ _ rfl #[.agg (Rec.opc call (.slice A n c) s t 0)] (by simp [Act.eval]) (Rec.enter_key _) ?_
  refine (Rec.key_any call A n c b s n0 Hok.out t W ⟨hr.len, (hr.is.below hW.2).more hW.2.size⟩).mono ?_
  rintro e W5 ⟨v, rfl, own, hE⟩
  rw [HK.out] at own
  obtain ⟨A1, c1, ev⟩ := own.slice
  rw [LK.out] at ev
  subst ev
  refine ⟨_, rfl, Next.mk (fun W => Blk W w.heap.size 34 (Rec.opc call (.slice A n c) s t 0) ∧ Below w.heap.size w W) (fun W => (Blk W gw 75 (Rec.wrc (.pointer none) 0) ∧ Blk W gr 84 (Rec.rdc (.pointer none) (.slice none 0 0) 0 false 0)) ∧ OwnB W w.heap.size (.slice A1 n0 c1) K) (fun _ h => h) ⟨hW.1.below hE hW.1.lt, hW.2.trans (hE.mono hW.2.size)⟩ ⟨⟨hX.1.below hE hX.1.lt, hX.2.below hE hX.2.lt⟩, own.low hW.2.size⟩ ?_⟩
  clear hE hW hX own
  simp only [Act.put, List.getElem_toArray, List.getElem_cons_succ, List.getElem_cons_zero, List.setIfInBounds_toArray, List.set_cons_zero, List.set_cons_succ]
  refine p_one 7 (by kernel_rfl) (fun W hW hX => ?_)
  refine op_call (o := _) rfl (wanted_plain rfl) 17 _ _ rfl #[.agg (Rec.opc call (.slice A n c) s t 0)] (by simp [Act.eval]) (Rec.enter_iv _) ?_
  refine (Rec.iv_any call A n c b s t 0 W ⟨hr.len, (hr.is.below hW.2).more hW.2.size⟩ hn).mono ?_
  rintro e W5 ⟨rfl, hE⟩
  rw [HV.out]
  refine ⟨_, rfl, Next.mk (fun W => Blk W w.heap.size 34 (Rec.opc call (.slice A n c) s t 0) ∧ Below w.heap.size w W) (fun W => (Blk W gw 75 (Rec.wrc (.pointer none) 0) ∧ Blk W gr 84 (Rec.rdc (.pointer none) (.slice none 0 0) 0 false 0)) ∧ OwnB W w.heap.size (.slice A1 n0 c1) K) (fun _ h => h) ⟨hW.1.below hE hW.1.lt, hW.2.trans (hE.mono hW.2.size)⟩ ⟨⟨hX.1.1.below hE hX.1.1.lt, hX.1.2.below hE hX.1.2.lt⟩, hX.2.later hE⟩ ?_⟩
  clear hE hW hX
  simp only [Act.put, List.getElem_toArray, List.getElem_cons_succ, List.getElem_cons_zero, List.setIfInBounds_toArray, List.set_cons_zero, List.set_cons_succ]
  refine p_one 8 (by kernel_rfl) (fun W hW hX => ?_)
  refine op_call (o := _) rfl (wanted_plain rfl) 15 _ _ rfl #[.pointer (some ⟨gw, 0, none⟩), .int .u16 ((n16 s : Nat) : Int), .slice A1 n0 c1, .agg (arr V), .int .u64 0] (by simp [Act.eval]) (Rec.enter_wkey _) ?_
  refine (Rec.wkey_zero s n0 Hok.out A1 c1 K V LV.out gw (.pointer none) 0 W (by have h := hX.2.reads_any; exact h.2) hX.1.1).mono ?_
  rintro e W5 ⟨rfl, ⟨gl, ⟨wb, ⟨⟨Aw, cw, lb, lo⟩, l12, _⟩, _⟩, hgl⟩, gr5⟩
  refine ⟨_, rfl, Next.mk (fun W => Blk W w.heap.size 34 (Rec.opc call (.slice A n c) s t 0) ∧ Below w.heap.size w W) (fun W => (∃ gl Aw cw, Blk W gw 75 (Rec.wrc (.pointer (some ⟨gl, 0, none⟩)) (Suite.limit s)) ∧ Rec.LkK W gl s Aw cw K V 0 ∧ w.heap.size ≤ gl) ∧ Blk W gr 84 (Rec.rdc (.pointer none) (.slice none 0 0) 0 false 0)) (fun _ h => h) ⟨hW.1.grown gr5 (by intro e; injection e; omega), below_moved hW.2 gr5 (by omega) hW.2.size⟩ ⟨⟨gl, Aw, cw, wb, ⟨lb, lo, l12⟩, Nat.le_trans hW.2.size hgl⟩, hX.1.2.grown gr5 (by intro e; injection e with e; exact absurd e (hX.1.2.ne_ hX.1.1 (by decide)))⟩ ?_⟩
  clear wb lb lo l12 hgl gr5 hW hX
  simp only [Act.put, List.getElem_toArray, List.getElem_cons_succ, List.getElem_cons_zero, List.setIfInBounds_toArray, List.set_cons_zero, List.set_cons_succ]
  refine p_take 9 (o := _) rfl (by kernel_rfl) (by kernel_rfl) (by kernel_rfl) (wanted_plain rfl) (.bool true) (fun _ _ _ h => h) (fun W hW => Rec.run_eqlI (by rfl) 0 0 (by simp [Act.eval]) (by simp [Act.eval]) true rfl) ?_
  simp only [Act.put, List.getElem_toArray, List.getElem_cons_succ, List.getElem_cons_zero, List.setIfInBounds_toArray, List.set_cons_zero, List.set_cons_succ]
  refine p_take 10 (o := _) rfl (by kernel_rfl) (by kernel_rfl) (by kernel_rfl) (wanted_plain rfl) (.bool true) (fun _ _ _ h => h) (fun W hW => run_move (by rfl) (by simp [Act.eval]) W) ?_
  simp only [Act.put, List.getElem_toArray, List.getElem_cons_succ, List.getElem_cons_zero, List.setIfInBounds_toArray, List.set_cons_zero, List.set_cons_succ]
  refine p_take 11 (o := _) rfl (by kernel_rfl) (by kernel_rfl) (by kernel_rfl) (by simp [Region.wanted, yielded]) (.pointer (some ⟨gr, 0, none⟩)) (fun _ _ _ h => h) (fun W hW => run_move (by rfl) (by simp [Act.eval]) W) ?_
  simp only [Act.put, List.getElem_toArray, List.getElem_cons_succ, List.getElem_cons_zero, List.setIfInBounds_toArray, List.set_cons_zero, List.set_cons_succ]
  refine p_take 12 (o := _) rfl (by kernel_rfl) (by kernel_rfl) (by kernel_rfl) (by simp [Region.wanted, yielded]) (.int .u16 ((n16 s : Nat) : Int)) (fun _ _ _ h => h) (fun W hW => run_move (by rfl) (by simp [Act.eval]) W) ?_
  simp only [Act.put, List.getElem_toArray, List.getElem_cons_succ, List.getElem_cons_zero, List.setIfInBounds_toArray, List.set_cons_zero, List.set_cons_succ]
  refine p_take 13 (o := _) rfl (by kernel_rfl) (by kernel_rfl) (by kernel_rfl) (by simp [Region.wanted, yielded]) (.agg (Rec.opc call (.slice A n c) s t 0)) (fun _ _ _ h => h) (fun W hW => Rec.run_loadOp (by rfl) w.heap.size call (.slice A n c) s t 0 (by simp [Act.eval]) hW.1) ?_
  simp only [Act.put, List.getElem_toArray, List.getElem_cons_succ, List.getElem_cons_zero, List.setIfInBounds_toArray, List.set_cons_zero, List.set_cons_succ]
  refine p_take 15 (o := _) rfl (by kernel_rfl) (by kernel_rfl) (by kernel_rfl) (by simp [Region.wanted, yielded]) (.agg (Rec.opc call (.slice A n c) s t 0)) (fun _ _ _ h => h) (fun W hW => Rec.run_loadOp (by rfl) w.heap.size call (.slice A n c) s t 0 (by simp [Act.eval]) hW.1) ?_
  simp only [Act.put, List.getElem_toArray, List.getElem_cons_succ, List.getElem_cons_zero, List.setIfInBounds_toArray, List.set_cons_zero, List.set_cons_succ]
  refine p_one 14 (by kernel_rfl) (fun W hW hX => ?_)
  refine op_call (o := _) rfl (by simp [Region.wanted, yielded]) 16 _ _ rfl #[.agg (Rec.opc call (.slice A n c) s t 0)] (by simp [Act.eval]) (Rec.enter_key _) ?_
  refine (Rec.key_any call A n c b s n0 Hok.out t W ⟨hr.len, (hr.is.below hW.2).more hW.2.size⟩).mono ?_
  rintro e W5 ⟨v, rfl, own, hE⟩
  rw [HK.out] at own
  obtain ⟨A2, c2, ev⟩ := own.slice
  rw [LK.out] at ev
  subst ev
  refine ⟨_, rfl, Next.mk (fun W => Blk W w.heap.size 34 (Rec.opc call (.slice A n c) s t 0) ∧ Below w.heap.size w W) (fun W => ((∃ gl Aw cw, Blk W gw 75 (Rec.wrc (.pointer (some ⟨gl, 0, none⟩)) (Suite.limit s)) ∧ Rec.LkK W gl s Aw cw K V 0 ∧ w.heap.size ≤ gl) ∧ Blk W gr 84 (Rec.rdc (.pointer none) (.slice none 0 0) 0 false 0)) ∧ OwnB W w.heap.size (.slice A2 n0 c2) K) (fun _ h => h) ⟨hW.1.below hE hW.1.lt, hW.2.trans (hE.mono hW.2.size)⟩ ⟨⟨(by obtain ⟨gl, Aw, cw, h1, h2, h3⟩ := hX.1; exact ⟨gl, Aw, cw, h1.below hE h1.lt, h2.next hE, h3⟩), hX.2.below hE hX.2.lt⟩, own.low hW.2.size⟩ ?_⟩
  clear hE hW hX own
  simp only [Act.put, List.getElem_toArray, List.getElem_cons_succ, List.getElem_cons_zero, List.setIfInBounds_toArray, List.set_cons_zero, List.set_cons_succ]
  refine p_one 16 (by kernel_rfl) (fun W hW hX => ?_)
  refine op_call (o := _) rfl (by simp [Region.wanted, yielded]) 17 _ _ rfl #[.agg (Rec.opc call (.slice A n c) s t 0)] (by simp [Act.eval]) (Rec.enter_iv _) ?_
  refine (Rec.iv_any call A n c b s t 0 W ⟨hr.len, (hr.is.below hW.2).more hW.2.size⟩ hn).mono ?_
  rintro e W5 ⟨rfl, hE⟩
  rw [HV.out]
  refine ⟨_, rfl, Next.mk (fun W => Blk W w.heap.size 34 (Rec.opc call (.slice A n c) s t 0) ∧ Below w.heap.size w W) (fun W => ((∃ gl Aw cw, Blk W gw 75 (Rec.wrc (.pointer (some ⟨gl, 0, none⟩)) (Suite.limit s)) ∧ Rec.LkK W gl s Aw cw K V 0 ∧ w.heap.size ≤ gl) ∧ Blk W gr 84 (Rec.rdc (.pointer none) (.slice none 0 0) 0 false 0)) ∧ OwnB W w.heap.size (.slice A2 n0 c2) K) (fun _ h => h) ⟨hW.1.below hE hW.1.lt, hW.2.trans (hE.mono hW.2.size)⟩ ⟨⟨(by obtain ⟨gl, Aw, cw, h1, h2, h3⟩ := hX.1.1; exact ⟨gl, Aw, cw, h1.below hE h1.lt, h2.next hE, h3⟩), hX.1.2.below hE hX.1.2.lt⟩, hX.2.later hE⟩ ?_⟩
  clear hE hW hX
  simp only [Act.put, List.getElem_toArray, List.getElem_cons_succ, List.getElem_cons_zero, List.setIfInBounds_toArray, List.set_cons_zero, List.set_cons_succ]
  refine p_one 17 (by kernel_rfl) (fun W hW hX => ?_)
  refine op_call (o := _) rfl (by simp [Region.wanted, yielded]) 39 _ _ rfl #[.pointer (some ⟨gr, 0, none⟩), .int .u16 ((n16 s : Nat) : Int), .slice A2 n0 c2, .agg (arr V)] (by simp [Act.eval]) (Rec.enter_rkey _) ?_
  refine (Rec.rkey_any s n0 Hok.out A2 c2 K V LV.out gr (.pointer none) (.slice none 0 0) 0 false W (by have h := hX.2.reads_any; exact h.2) hX.1.2).mono ?_
  rintro e W5 ⟨rfl, ⟨glr, Ar, cr, rd, hgl⟩, gr5⟩
  obtain ⟨glw, Aw, cw, wb, wl, hlw⟩ := hX.1.1
  have hb := hX.1.2
  refine ⟨_, rfl, Next.mk (fun W => Blk W w.heap.size 34 (Rec.opc call (.slice A n c) s t 0) ∧ Below w.heap.size w W) (fun W => ∃ glw Aw cw glr Ar cr, Blk W gw 75 (Rec.wrc (.pointer (some ⟨glw, 0, none⟩)) (Suite.limit s)) ∧ Rec.LkK W glw s Aw cw K V 0 ∧ Rec.RdAt W gr glr (.slice none 0 0) 0 false s Ar cr K V 0 ∧ w.heap.size ≤ glw ∧ w.heap.size ≤ glr ∧ glw ≠ glr) (fun _ h => h) ⟨hW.1.grown gr5 (by intro e; injection e; omega), below_moved hW.2 gr5 (by omega) hW.2.size⟩ ⟨glw, Aw, cw, glr, Ar, cr, wb.grown gr5 (by intro e; injection e with e; exact absurd e (wb.ne_ hb (by decide))), ⟨wl.blk.grown gr5 (by intro e; injection e with e; exact absurd e (wl.blk.ne_ hb (by decide))), wl.own.moved gr5 (own_blk_ne wl.own.own hb (by decide)), wl.iv12⟩, rd, hlw, Nat.le_trans hW.2.size hgl, by have := wl.blk.lt; omega⟩ ?_⟩
  clear rd hgl gr5 wb wl hlw hb hW hX
  simp only [Act.put, List.getElem_toArray, List.getElem_cons_succ, List.getElem_cons_zero, List.setIfInBounds_toArray, List.set_cons_zero, List.set_cons_succ]
  refine p_take 18 (o := _) rfl (by kernel_rfl) (by kernel_rfl) (by kernel_rfl) (by simp [Region.wanted, yielded]) (.bool true) (fun _ _ _ h => h) (fun W hW => Rec.run_eqlI (by rfl) 0 0 (by simp [Act.eval]) (by simp [Act.eval]) true rfl) ?_
  simp only [Act.put, List.getElem_toArray, List.getElem_cons_succ, List.getElem_cons_zero, List.setIfInBounds_toArray, List.set_cons_zero, List.set_cons_succ]
  refine p_take 19 (o := _) rfl (by kernel_rfl) (by kernel_rfl) (by kernel_rfl) (wanted_plain rfl) (.bool true) (fun _ _ _ h => h) (fun W hW => run_pick (b := true) (by rfl) (by simp [Act.eval]) (by simp [Act.eval]) W) ?_
  simp only [Act.put, List.getElem_toArray, List.getElem_cons_succ, List.getElem_cons_zero, List.setIfInBounds_toArray, List.set_cons_zero, List.set_cons_succ]
  refine p_take 20 (o := _) rfl (by kernel_rfl) (by kernel_rfl) (by kernel_rfl) (wanted_plain rfl) (.pointer (some ⟨gw, 0, none⟩)) (fun _ _ _ h => h) (fun W hW => run_assign (by rfl) (by simp [Act.eval]) W) ?_
  simp only [Act.put, List.getElem_toArray, List.getElem_cons_succ, List.getElem_cons_zero, List.setIfInBounds_toArray, List.set_cons_zero, List.set_cons_succ]
  refine p_take 21 (o := _) rfl (by kernel_rfl) (by kernel_rfl) (by kernel_rfl) (wanted_plain rfl) (.pointer (some ⟨gr, 0, none⟩)) (fun _ _ _ h => h) (fun W hW => run_assign (by rfl) (by simp [Act.eval]) W) ?_
  simp only [Act.put, List.getElem_toArray, List.getElem_cons_succ, List.getElem_cons_zero, List.setIfInBounds_toArray, List.set_cons_zero, List.set_cons_succ]
  refine p_take 22 (o := _) rfl (by kernel_rfl) (by kernel_rfl) (by kernel_rfl) (wanted_plain rfl) (.bool true) (fun _ _ _ h => h) (fun W hW => run_assign (by rfl) (by simp [Act.eval]) W) ?_
  simp only [Act.put, List.getElem_toArray, List.getElem_cons_succ, List.getElem_cons_zero, List.setIfInBounds_toArray, List.set_cons_zero, List.set_cons_succ]
  refine (show ∀ z0, wpAnyV _ _ _ _ _ _ z0 _ _ _ from fun z0 => v_done (by kernel_rfl) (fun W1 H => ?_) z0) _
  obtain ⟨⟨b1, hB1⟩, glw, Aw, cw, glr, Ar, cr, h1, h2, h3, h4, h5, h6⟩ := H
  go_wp2
  go_ret3
  exact ⟨gw, gr, glw, Aw, cw, glr, Ar, cr, rfl, h1, h2, h3, by omega, by omega, h4, h5, h6, hB1⟩
end Go.Proofs.Ytbcboldepghgpaa
