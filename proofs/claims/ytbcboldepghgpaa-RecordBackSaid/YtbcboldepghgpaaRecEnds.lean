/-
  The walk of RecordEnds.
-/
import Derived.Test.YtbcboldepghgpaaRecH
set_option linter.unusedVariables false
set_option linter.unusedSimpArgs false
set_option maxRecDepth 100000
namespace Go.Proofs.Ytbcboldepghgpaa
open Go.RowKit
namespace Rec
/-- The suite that is asked for. -/
def suiteOf (s : UInt16) : UInt16 := 4865 + s % 3
theorem suiteOf_ok (s : UInt16) : ∃ n, Suite.Ok (suiteOf s) n := by
  have h : s % 3 = 0 ∨ s % 3 = 1 ∨ s % 3 = 2 := by
    have h1 : (s % 3).toNat = s.toNat % 3 := UInt16.toNat_mod s 3
    rcases (show s.toNat % 3 = 0 ∨ s.toNat % 3 = 1 ∨ s.toNat % 3 = 2 by omega) with h | h | h
    · exact .inl (UInt16.toNat_inj.1 (h1.trans h))
    · exact .inr (.inl (UInt16.toNat_inj.1 (h1.trans h)))
    · exact .inr (.inr (UInt16.toNat_inj.1 (h1.trans h)))
  unfold suiteOf Suite.Ok
  rcases h with h | h | h <;> rw [h]
  · exact ⟨16, .inl ⟨rfl, rfl⟩⟩
  · exact ⟨32, .inr (.inl ⟨rfl, rfl⟩)⟩
  · exact ⟨32, .inr (.inr ⟨rfl, rfl⟩)⟩
section
variable {P : Program} {w : World} {o : Oper} {ρ : Operand → Value} {x y : Operand} {t rt : TypeId}
theorem run_rem16 (ho : o.op = .binOp .rem t x y rt) (s : UInt16) (hx : ρ x = .int .u16 ((n16 s : Nat) : Int)) (hy : ρ y = .int .u16 3) : (execOp ρ o).run P w = .ok (.value (.int .u16 ((n16 (s % 3) : Nat) : Int))) w := by
  have e : (n16 (s % 3) : Nat) = n16 s % 3 := UInt16.toNat_mod s 3
  unfold execOp
  simp only [ho, hx, hy, e]
  simp [go_sem]
  exact Int.tmod_eq_emod_of_nonneg (by omega)
theorem run_suite (ho : o.op = .binOp .add t x y rt) (s : UInt16) (hx : ρ x = .int .u16 4865) (hy : ρ y = .int .u16 ((n16 (s % 3) : Nat) : Int)) : (execOp ρ o).run P w = .ok (.value (.int .u16 ((n16 (suiteOf s) : Nat) : Int))) w := by
  unfold execOp suiteOf
  simp only [ho, hx, hy]
  simp [go_sem]
theorem run_most (ho : o.op = .binOp .add t x y rt) (v : UInt64) (hx : ρ x = .int .u64 1) (hy : ρ y = .int .u64 ((n64 v : Nat) : Int)) : (execOp ρ o).run P w = .ok (.value (.int .u64 ((n64 (1 + v) : Nat) : Int))) w := by
  unfold execOp
  simp only [ho, hx, hy]
  simp [go_sem]
theorem run_neqI (ho : o.op = .binOp .neq t x y rt) (i j : Int) (hx : ρ x = .int .i64 i) (hy : ρ y = .int .i64 j) (b : Bool) (hb : (i != j) = b) : (execOp ρ o).run P w = .ok (.value (.bool b)) w := by
  subst hb
  unfold execOp
  simp only [ho, hx, hy]
  simp [go_sem]
theorem run_rem8 (ho : o.op = .binOp .rem t x y rt) (s k : UInt8) (hk : 0 < k.toNat) (hx : ρ x = .int .u8 ((n8 s : Nat) : Int)) (hy : ρ y = .int .u8 ((n8 k : Nat) : Int)) : (execOp ρ o).run P w = .ok (.value (.int .u8 ((n8 (s % k) : Nat) : Int))) w := by
  have e : (n8 (s % k) : Nat) = n8 s % n8 k := UInt8.toNat_mod s k
  have hk0 : ¬ n8 k = 0 := by have : 0 < n8 k := hk; omega
  unfold execOp
  simp only [ho, hx, hy, e]
  simp [go_sem, hk0]
  exact Int.tmod_eq_emod_of_nonneg (by omega)
end
end Rec
theorem Rec.enter_key (args : Array Value) (w : World) : (callFunc 16 args).run Try.prog w = .ok (.enter 16 args) w := by kernel_rfl
theorem Rec.enter_iv (args : Array Value) (w : World) : (callFunc 17 args).run Try.prog w = .ok (.enter 17 args) w := by kernel_rfl
theorem Rec.enter_wkey (args : Array Value) (w : World) : (callFunc 15 args).run Try.prog w = .ok (.enter 15 args) w := by kernel_rfl
theorem Rec.aggOp : AggT Try.prog 34 5 := ⟨by kernel_rfl, by kernel_rfl⟩
theorem Rec.run_loadOp {w : World} {o : Oper} {ρ : Operand → Value} {x : Operand} (ho : o.op = .load 34 x) (g : Nat) (call : Int) (B : Value) (s : UInt16) (t n : Int) (hx : ρ x = .pointer (some ⟨g, 0, none⟩)) (hb : Blk w g 34 (Rec.opc call B s t n)) : (execOp ρ o).run Try.prog w = .ok (.value (.agg (Rec.opc call B s t n))) w :=
  run_execOp_load ho hx (run_loadVar_cells Rec.aggOp ⟨g, 0, none⟩ (Rec.opc call B s t n).toList rfl hb.cells.is)
set_option maxHeartbeats 16000000 in
set_option maxRecDepth 100000 in
theorem recordEnds_any (call : Int) (A : Option Addr) (n c : Nat) (b : List UInt8) (s0 : UInt16) (t N : Int) (nn many : UInt8) (w : World) (hr : ReadsB w w.heap.size A n b) (hnc : n ≤ c) (hn : n ≤ 9223372036854775807) :
    Calls Try.prog 5 #[.agg (Rec.opc call (.slice A n c) s0 t N), .int .u8 ((n8 nn : Nat) : Int), .int .u8 ((n8 many : Nat) : Int)] w fun e w' => e = .returned (.bool true) ∧ Below w.heap.size w w' := by
  obtain ⟨s, Hs⟩ : ∃ x, Hd (Rec.suiteOf s0 = x) := ⟨_, ⟨rfl⟩⟩
  obtain ⟨n0, hok⟩ := Rec.suiteOf_ok s0
  rw [Hs.out] at hok
  have Hok := hd hok
  clear hok
  obtain ⟨K, HK⟩ : ∃ x, Hd (Rec.keyOf n0 b = x) := ⟨_, ⟨rfl⟩⟩
  have LK := hd (show K.length = n0 by rw [← HK.out, Rec.keyOf_len])
  obtain ⟨V, HV⟩ : ∃ x, Hd (Rec.ivOf b = x) := ⟨_, ⟨rfl⟩⟩
  have LV := hd (show V.length = 12 by rw [← HV.out, Rec.ivOf_len])
  obtain ⟨m, Hm⟩ : ∃ x, Hd (1 + (nn % 9).toUInt64 = x) := ⟨_, ⟨rfl⟩⟩
  have Hm9 := hd (show 1 ≤ m.toNat ∧ m.toNat ≤ 9 by
    have h1 : (nn % 9).toNat = nn.toNat % 9 := UInt8.toNat_mod nn 9
    rw [← Hm.out, UInt64.toNat_add, UInt8.toNat_toUInt64, h1]
    show 1 ≤ (1 + nn.toNat % 9) % 18446744073709551616 ∧ (1 + nn.toNat % 9) % 18446744073709551616 ≤ 9
    omega)
  have hB0 : Below w.heap.size w (w.alloc (.cells (Rec.opc call (.slice A n c) s0 t N) 34)) := (Below.refl _ _).alloc (Nat.le_refl _) _
  have b0 : Blk (w.alloc (.cells (Rec.opc call (.slice A n c) s0 t N) 34)) w.heap.size 34 (Rec.opc call (.slice A n c) s0 t N) := Blk.nu rfl
  go_enter Try.func5, Try.ntmps5
  go_wp2_with fail
  refine (head18_any _).mono ?_
  rintro e W1 ⟨rfl, hE1⟩
  have b1 := b0.below hE1 b0.lt
  have hB1 := hB0.trans (hE1.mono hB0.size)
  clear b0 hB0 hE1
  go_wp2_with fail
  refine (Rec.newWriter_any W1).mono ?_
  rintro e W2 ⟨rfl, e2⟩
  obtain ⟨gw, Hgw⟩ : ∃ z, Hd (W1.heap.size = z) := ⟨_, ⟨rfl⟩⟩
  have bw : Blk W2 gw 75 (Rec.wrc (.pointer none) 0) := by rw [e2]; exact Blk.nu Hgw.out.symm
  have hE2 : Below W1.heap.size W1 W2 := by rw [e2]; exact (Below.refl _ _).alloc (Nat.le_refl _) _
  have hgw : w.heap.size < gw := by rw [← Hgw.out]; exact b1.lt
  have b2 := b1.below hE2 b1.lt
  have hB2 := hB1.trans (hE2.mono hB1.size)
  clear b1 hB1 hE2 e2
  rw [Hgw.out]
  have c2 : W2.cell? ⟨w.heap.size, 2, none⟩ = some (.int .u16 ((n16 s0 : Nat) : Int)) := b2.cell 2
  have c4 : W2.cell? ⟨w.heap.size, 4, none⟩ = some (.int .i64 N) := b2.cell 4
  have f2 := b2.frozen 2
  have f4 := b2.frozen 4
  have b3 : Blk ((W2.setCell ⟨w.heap.size, 2, none⟩ (.int .u16 ((n16 s : Nat) : Int))).setCell ⟨w.heap.size, 4, none⟩ (.int .i64 0)) w.heap.size 34 (Rec.opc call (.slice A n c) s t 0) := (b2.set_ 2 _).set_ 4 _
  have bw3 := (bw.far (p := ⟨w.heap.size, 2, none⟩) (by simp only []; omega) (.int .u16 ((n16 s : Nat) : Int))).far (p := ⟨w.heap.size, 4, none⟩) (by simp only []; omega) (.int .i64 0)
  have hB3 := (hB2.setCell (p := ⟨w.heap.size, 2, none⟩) (Nat.le_refl _) (.int .u16 ((n16 s : Nat) : Int))).setCell (p := ⟨w.heap.size, 4, none⟩) (Nat.le_refl _) (.int .i64 0)
  clear b2 bw hB2
  go_wp2_with (first
    | (refine wpl_run (o := ⟨some 24, _, _, _, _, _⟩) (wanted_plain rfl) (.int .u16 ((n16 (s0 % 3) : Nat) : Int)) (Rec.run_rem16 (by rfl) s0 (by simp [Act.eval, Act.put]) (by simp [Act.eval, Act.put])) ?_)
    | (refine wpl_run (o := ⟨some 25, _, _, _, _, _⟩) (wanted_plain rfl) (.int .u16 ((n16 s : Nat) : Int)) (by rw [← Hs.out]; exact Rec.run_suite (by rfl) s0 (by simp [Act.eval, Act.put]) (by simp [Act.eval, Act.put])) ?_)
    | (refine wpl_run (o := ⟨some 30, _, _, _, _, _⟩) (wanted_plain rfl) (.int .u8 ((n8 (nn % 9) : Nat) : Int)) (Rec.run_rem8 (by rfl) nn 9 (by decide) (by simp [Act.eval, Act.put]) (by rfl)) ?_)
    | (refine wpl_run (o := ⟨some 32, _, _, _, _, _⟩) (wanted_plain rfl) (.int .u64 ((n64 m : Nat) : Int)) (by rw [← Hm.out]; exact Rec.run_most (by rfl) _ (by simp [Act.eval, Act.put]) (by simp [Act.eval, Act.put])) ?_))
  obtain ⟨W3, HW3⟩ : ∃ x, Hd ((W2.setCell ⟨w.heap.size, 2, none⟩ (.int .u16 ((n16 s : Nat) : Int))).setCell ⟨w.heap.size, 4, none⟩ (.int .i64 0) = x) := ⟨_, ⟨rfl⟩⟩
  rw [HW3.out] at b3 bw3 hB3 ⊢
  clear HW3 c2 c4 f2 f4
  refine v_start (S := PW) PR ((fun W => Blk W w.heap.size 34 (Rec.opc call (.slice A n c) s t 0) ∧ Below w.heap.size w W), fun W => Blk W gw 75 (Rec.wrc (.pointer none) 0)) (by kernel_rfl) ⟨⟨b3.drew, hB3.drew⟩, bw3.drew⟩ ?_
  clear b3 hB3 bw3
  refine p_take 0 (o := _) rfl (by kernel_rfl) (by kernel_rfl) (by kernel_rfl) (wanted_plain rfl) (.pointer (some ⟨gw, 0, none⟩)) (fun _ _ _ h => h) (fun W hW => run_move (by rfl) (by simp [Act.eval]) W) ?_
  simp only [Act.put, List.getElem_toArray, List.getElem_cons_succ, List.getElem_cons_zero, List.setIfInBounds_toArray, List.set_cons_zero, List.set_cons_succ]
  refine p_take 1 (o := _) rfl (by kernel_rfl) (by kernel_rfl) (by kernel_rfl) (wanted_plain rfl) (.int .u16 ((n16 s : Nat) : Int)) (fun _ _ _ h => h) (fun W hW => run_move (by rfl) (by simp [Act.eval]) W) ?_
  simp only [Act.put, List.getElem_toArray, List.getElem_cons_succ, List.getElem_cons_zero, List.setIfInBounds_toArray, List.set_cons_zero, List.set_cons_succ]
  refine p_take 2 (o := _) rfl (by kernel_rfl) (by kernel_rfl) (by kernel_rfl) (wanted_plain rfl) (.agg (Rec.opc call (.slice A n c) s t 0)) (fun _ _ _ h => h) (fun W hW => Rec.run_loadOp (by rfl) w.heap.size call (.slice A n c) s t 0 (by simp [Act.eval]) hW.1) ?_
  simp only [Act.put, List.getElem_toArray, List.getElem_cons_succ, List.getElem_cons_zero, List.setIfInBounds_toArray, List.set_cons_zero, List.set_cons_succ]
  refine p_take 4 (o := _) rfl (by kernel_rfl) (by kernel_rfl) (by kernel_rfl) (wanted_plain rfl) (.agg (Rec.opc call (.slice A n c) s t 0)) (fun _ _ _ h => h) (fun W hW => Rec.run_loadOp (by rfl) w.heap.size call (.slice A n c) s t 0 (by simp [Act.eval]) hW.1) ?_
  simp only [Act.put, List.getElem_toArray, List.getElem_cons_succ, List.getElem_cons_zero, List.setIfInBounds_toArray, List.set_cons_zero, List.set_cons_succ]
  refine p_take 6 (o := _) rfl (by kernel_rfl) (by kernel_rfl) (by kernel_rfl) (wanted_plain rfl) (.int .u64 ((n64 m : Nat) : Int)) (fun _ _ _ h => h) (fun W hW => run_move (by rfl) (by simp [Act.eval]) W) ?_
  simp only [Act.put, List.getElem_toArray, List.getElem_cons_succ, List.getElem_cons_zero, List.setIfInBounds_toArray, List.set_cons_zero, List.set_cons_succ]
  refine p_one 3 (by kernel_rfl) (fun W hW hX => ?_)
  refine op_call (o := _) rfl (wanted_plain rfl) 16 _ _ rfl #[.agg (Rec.opc call (.slice A n c) s t 0)] (by simp [Act.eval]) (Rec.enter_key _) ?_
  refine (Rec.key_any call A n c b s n0 Hok.out t W ⟨hr.len, (hr.is.below hW.2).more hW.2.size⟩).mono ?_
  rintro e W5 ⟨v, rfl, own, hE⟩
  rw [HK.out] at own
  obtain ⟨Ak, ck, ev⟩ := own.slice
  rw [LK.out] at ev
  subst ev
  refine ⟨_, rfl, Next.mk (fun W => Blk W w.heap.size 34 (Rec.opc call (.slice A n c) s t 0) ∧ Below w.heap.size w W) (fun W => Blk W gw 75 (Rec.wrc (.pointer none) 0) ∧ OwnB W w.heap.size (.slice Ak n0 ck) K) (fun _ h => h) ⟨hW.1.below hE hW.1.lt, hW.2.trans (hE.mono hW.2.size)⟩ ⟨hX.below hE hX.lt, own.low hW.2.size⟩ ?_⟩
  clear hE hW hX own
  simp only [Act.put, List.getElem_toArray, List.getElem_cons_succ, List.getElem_cons_zero, List.setIfInBounds_toArray, List.set_cons_zero, List.set_cons_succ]
  refine p_one 5 (by kernel_rfl) (fun W hW hX => ?_)
  refine op_call (o := _) rfl (wanted_plain rfl) 17 _ _ rfl #[.agg (Rec.opc call (.slice A n c) s t 0)] (by simp [Act.eval]) (Rec.enter_iv _) ?_
  refine (Rec.iv_any call A n c b s t 0 W ⟨hr.len, (hr.is.below hW.2).more hW.2.size⟩ hn).mono ?_
  rintro e W5 ⟨rfl, hE⟩
  rw [HV.out]
  refine ⟨_, rfl, Next.mk (fun W => Blk W w.heap.size 34 (Rec.opc call (.slice A n c) s t 0) ∧ Below w.heap.size w W) (fun W => Blk W gw 75 (Rec.wrc (.pointer none) 0) ∧ OwnB W w.heap.size (.slice Ak n0 ck) K) (fun _ h => h) ⟨hW.1.below hE hW.1.lt, hW.2.trans (hE.mono hW.2.size)⟩ ⟨hX.1.below hE hX.1.lt, hX.2.later hE⟩ ?_⟩
  clear hE hW hX
  simp only [Act.put, List.getElem_toArray, List.getElem_cons_succ, List.getElem_cons_zero, List.setIfInBounds_toArray, List.set_cons_zero, List.set_cons_succ]
  refine p_one 7 (by kernel_rfl) (fun W hW hX => ?_)
  refine op_call (o := _) rfl (wanted_plain rfl) 15 _ _ rfl #[.pointer (some ⟨gw, 0, none⟩), .int .u16 ((n16 s : Nat) : Int), .slice Ak n0 ck, .agg (arr V), .int .u64 ((n64 m : Nat) : Int)] (by simp [Act.eval]) (Rec.enter_wkey _) ?_
  refine (Rec.wkey_few s n0 Hok.out Ak ck K V LV.out m (UInt64.lt_iff_toNat_lt.2 (by have := Hm9.out; show 0 < m.toNat; omega)) (UInt64.lt_iff_toNat_lt.2 (by have := Hm9.out; show m.toNat < 23726566; omega)) gw (.pointer none) 0 W (by have h := hX.2.reads_any; exact h.2) hX.1).mono ?_
  rintro e W5 ⟨rfl, ⟨gl, wr, hgl⟩, gr⟩
  refine ⟨_, rfl, Next.mk (fun W => Blk W w.heap.size 34 (Rec.opc call (.slice A n c) s t 0) ∧ Below w.heap.size w W) (fun W => ∃ gl, Rec.WrAt W 0 gw gl s K V 0 m ∧ w.heap.size ≤ gl) (fun _ h => h) ⟨hW.1.grown gr (by intro e; injection e; omega), below_moved hW.2 gr (by omega) hW.2.size⟩ ⟨gl, wr, Nat.le_trans hW.2.size hgl⟩ ?_⟩
  clear wr hgl gr hW hX
  simp only [Act.put, List.getElem_toArray, List.getElem_cons_succ, List.getElem_cons_zero, List.setIfInBounds_toArray, List.set_cons_zero, List.set_cons_succ]
  refine p_take 8 (o := _) rfl (by kernel_rfl) (by kernel_rfl) (by kernel_rfl) (wanted_plain rfl) (.bool false) (fun _ _ _ h => h) (fun W hW => Rec.run_neqI (by rfl) 0 0 (by simp [Act.eval]) (by simp [Act.eval]) false rfl) ?_
  simp only [Act.put, List.getElem_toArray, List.getElem_cons_succ, List.getElem_cons_zero, List.setIfInBounds_toArray, List.set_cons_zero, List.set_cons_succ]
  refine (show ∀ q, wpAnyV _ _ _ _ _ _ q _ _ _ from fun q => v_done (by kernel_rfl) (fun W1 H => ?_) q) _
  obtain ⟨⟨b1, hB1⟩, gl, wr, hgl⟩ := H
  obtain ⟨bw, ⟨⟨A2, c2, bl, ownK⟩, h12, _⟩, _⟩ := wr
  have lk : Rec.LkK W1 gl s A2 c2 K V 0 := ⟨bl, ownK, h12⟩
  clear bl ownK h12
  have Hmany := hd (show (many.toUInt64 % 20).toNat < 20 by
    rw [UInt64.toNat_mod]
    exact Nat.mod_lt _ (by decide))
  obtain ⟨P, HP⟩ : ∃ x, Hd (min n 50 = x) := ⟨_, ⟨rfl⟩⟩
  have HPl := hd (show P ≤ n ∧ P ≤ 50 by have := HP.out; omega)
  have HPi := hd (show ((P : Nat) : Int) = min (n : Int) 50 by have := HP.out; omega)
  go_wp2
  go_loopw [11] (fun i wr => ∃ k : UInt64, k.toNat ≤ 20 ∧ i = .int .u64 ((n64 k : Nat) : Int) ∧ Blk wr w.heap.size 34 (Rec.opc call (.slice A n c) s t 0) ∧ Below w.heap.size w wr ∧ Blk wr gw 75 (Rec.wrc (.pointer (some ⟨gl, 0, none⟩)) m) ∧ Rec.LkK wr gl s A2 c2 K V (if k < m then k else m)) (fun i _ => 20 - (intOf i).toNat)
  case atStart => exact ⟨0, by decide, rfl, b1, hB1, bw, by rw [if_pos (UInt64.lt_iff_toNat_lt.2 (by have := Hm9.out; show 0 < m.toNat; omega))]; exact lk⟩
  case round =>
    clear b1 hB1 bw lk
    obtain ⟨k, hk, rfl, b1, hB1, bw, lk⟩ := hrel
    have Hk := hd hk
    clear hk
    have c1 : wr.cell? ⟨w.heap.size, 1, none⟩ = some (.slice A n c) := b1.cell 1
    by_cases hlt : k < many.toUInt64 % 20
    · have hk20 := hd (show k.toNat < 20 by have h := UInt64.lt_iff_toNat_lt.1 hlt; have := Hmany.out; omega)
      have hk1 := hd (show (k + 1).toNat = k.toNat + 1 by rw [UInt64.toNat_add]; show (k.toNat + 1) % 18446744073709551616 = _; have := hk20.out; omega)
      have hrd : ReadsB wr wr.heap.size A P (b.take P) := by
        have h : ReadsB wr wr.heap.size A n b := ⟨hr.len, (hr.is.below hB1).more hB1.size⟩
        exact h.take HPl.out.1
      by_cases hkm : k < m
      · rw [if_pos hkm] at lk
        have hleft := hd (show 1 ≤ n64 (m - k) by
          have h1 := UInt64.lt_iff_toNat_lt.1 hkm
          have h2 : (m - k).toNat = m.toNat - k.toNat := UInt64.toNat_sub_of_le m k (UInt64.le_iff_toNat_le.2 (by omega))
          show 1 ≤ (m - k).toNat
          omega)
        have hnx := hd (show (if k + 1 < m then k + 1 else m) = k + 1 by
          by_cases h : k + 1 < m
          · rw [if_pos h]
          · rw [if_neg h]
            apply UInt64.toNat_inj.1
            have h1 := UInt64.lt_iff_toNat_lt.1 hkm
            have h2 : ¬ (k + 1).toNat < m.toNat := fun e => h (UInt64.lt_iff_toNat_lt.2 e)
            have h3 := hk1.out
            omega)
        go_wp2_with (first
          | (refine wpl_run (o := ⟨some 44, _, _, _, _, _⟩) (wanted_plain rfl) (.int .u8 ((n8 (many % 20) : Nat) : Int)) (Rec.run_rem8 (by rfl) many 20 (by decide) (by simp [Act.eval, Act.put]) (by rfl)) ?_)
          | (refine wpl_run (o := ⟨some 56, _, _, _, _, _⟩) (wanted_plain rfl) (.int .i64 (P : Int)) (Rec.run_minI (by rfl) (n : Int) 50 (P : Int) (by simp [Act.eval, Act.put]) (by simp [Act.eval, Act.put]) HPi.out) ?_)
          | (refine wpl_run (o := ⟨some 57, _, _, _, _, _⟩) (wanted_plain rfl) (.slice A P c) (run_slice_to (by rfl) Try.underlying24 u8_one A n c P (by simp [Act.eval, Act.put]) (by simp [Act.eval, Act.put]) (by have := HPl.out; omega)) ?_))
        refine (Rec.write_any n0 s Hok.out A2 c2 K V LK.out k m gw gl 23 A P c (b.take P) 0 wr bw lk hrd (by have := HPl.out; omega) (by have := HPl.out; omega) (by omega) hleft.out lk.blk.lt).mono ?_
        rintro e W5 ⟨v, rfl, own, lk5, gr⟩
        have hgl5 : w.heap.size ≤ gl := hgl
        have b5 := b1.grown gr (by intro e; injection e with e; exact absurd e (b1.ne_ lk.blk (by decide)))
        have bw5 := bw.grown gr (by intro e; injection e with e; exact absurd e (bw.ne_ lk.blk (by decide)))
        have hB5 := below_moved hB1 gr hgl hB1.size
        clear b1 bw lk hB1 c1 hrd own gr
        go_wp2
        go_roundw
        case rel => exact ⟨k + 1, by rw [hk1.out]; have := hk20.out; omega, rfl, b5, hB5, bw5, by rw [hnx.out]; exact lk5⟩
        case measure => show 20 - (k + 1).toNat < 20 - k.toNat; rw [hk1.out]; have := hk20.out; omega
      · rw [if_neg hkm] at lk
        have hnx := hd (show (if k + 1 < m then k + 1 else m) = m by
          rw [if_neg]
          intro e
          have h1 := UInt64.lt_iff_toNat_lt.1 e
          have h2 := hk1.out
          exact hkm (UInt64.lt_iff_toNat_lt.2 (by omega)))
        have hle : m ≤ k := UInt64.le_iff_toNat_le.2 (by have h : ¬ k.toNat < m.toNat := fun e => hkm (UInt64.lt_iff_toNat_lt.2 e); omega)
        go_wp2_with (first
          | (refine wpl_run (o := ⟨some 44, _, _, _, _, _⟩) (wanted_plain rfl) (.int .u8 ((n8 (many % 20) : Nat) : Int)) (Rec.run_rem8 (by rfl) many 20 (by decide) (by simp [Act.eval, Act.put]) (by rfl)) ?_)
          | (refine wpl_run (o := ⟨some 56, _, _, _, _, _⟩) (wanted_plain rfl) (.int .i64 (P : Int)) (Rec.run_minI (by rfl) (n : Int) 50 (P : Int) (by simp [Act.eval, Act.put]) (by simp [Act.eval, Act.put]) HPi.out) ?_)
          | (refine wpl_run (o := ⟨some 57, _, _, _, _, _⟩) (wanted_plain rfl) (.slice A P c) (run_slice_to (by rfl) Try.underlying24 u8_one A n c P (by simp [Act.eval, Act.put]) (by simp [Act.eval, Act.put]) (by have := HPl.out; omega)) ?_))
        refine (Rec.write_full n0 s Hok.out A2 c2 K V LK.out m m gw gl 23 A P c (b.take P) 0 wr bw lk hrd (by have := HPl.out; omega) (by have := HPl.out; omega) (by omega) (UInt64.sub_self m)).mono ?_
        rintro e W5 ⟨rfl, hE⟩
        have b5 := b1.below hE b1.lt
        have bw5 := bw.below hE bw.lt
        have lk5 := lk.next hE
        have hB5 := hB1.trans (hE.mono hB1.size)
        clear b1 bw lk hB1 c1 hrd hE
        have hwr : Rec.WrAt W5 0 gw gl s K V m m := ⟨bw5, ⟨⟨A2, c2, lk5.blk, lk5.own⟩, lk5.iv12, Nat.zero_le _⟩, Nat.zero_le _⟩
        go_wp2_with (first | (go_at_call 19; refine (Rec.left_any 0 gw gl s K V m m _ hwr).mono ?_; rintro e W6 ⟨rfl, hE6⟩; rw [UInt64.sub_self]; have b6 := b5.below hE6 b5.lt; have bw6 := bw5.below hE6 bw5.lt; have lk6 := lk5.next hE6; have hB6 := hB5.trans (hE6.mono hB5.size)))
        go_roundw
        case rel => exact ⟨k + 1, by rw [hk1.out]; have := hk20.out; omega, rfl, b6, hB6, bw6, by rw [hnx.out]; exact lk6⟩
        case measure => show 20 - (k + 1).toNat < 20 - k.toNat; rw [hk1.out]; have := hk20.out; omega
    · go_wp2_with (first
        | (refine wpl_run (o := ⟨some 44, _, _, _, _, _⟩) (wanted_plain rfl) (.int .u8 ((n8 (many % 20) : Nat) : Int)) (Rec.run_rem8 (by rfl) many 20 (by decide) (by simp [Act.eval, Act.put]) (by rfl)) ?_))
      go_ret
      exact ⟨rfl, hB1⟩
end Go.Proofs.Ytbcboldepghgpaa
