/-
  Laws for the operations of drawn regions, one at a time: places, loads, stores, numbers.
  The walks of layer 9's reference: left, word, quarter.
  The walk of a block of the stream, by layer 9's reference.
  The walk of layer 9's reference: carried.
  The walk of layer 9's reference: product.
  The walk of layer 9's reference: ended.
-/
import Derived.Test.YtbcboldepghgpaaChaB
import Derived.Test.YtbcboldepghgpaaJa
import Derived.Deep.DeepCutAuto
import Derived.Test.YtbcboldepghgpaaJd
set_option linter.unusedVariables false
set_option linter.unusedSimpArgs false
set_option maxRecDepth 100000
namespace Go.Proofs.Ytbcboldepghgpaa
open Go.RowKit
/-- How a frame is put on. -/
theorem PS : (∀ (t : Array Value) (d : List Deferred) (k : Nat) (v : Value), (⟨t, d⟩ : Act).put (some k) v = ⟨t.setIfInBounds k v, d⟩) ∧ (∀ (a : Act) (v : Value), a.put none v = a) ∧ (∀ (l : List Value) (i : Nat) (x : Value), l.toArray.setIfInBounds i x = (l.set i x).toArray) ∧
    (∀ (x y : Value) (l : List Value), (x :: l).set 0 y = y :: l) ∧ (∀ (x y : Value) (l : List Value) (n : Nat), (x :: l).set (n + 1) y = x :: l.set n y) ∧ (∀ (l : List Oper) (i : Nat) (h : i < l.toArray.size), l.toArray[i] = l[i]'(by simpa using h)) ∧
    (∀ (x : Oper) (l : List Oper) (h : 0 < (x :: l).length), (x :: l)[0] = x) ∧ (∀ (x : Oper) (l : List Oper) (i : Nat) (h : i + 1 < (x :: l).length), (x :: l)[i + 1] = l[i]'(by simpa using h)) :=
  ⟨fun _ _ _ _ => rfl, fun _ _ => rfl, fun _ _ _ => by simp, fun _ _ _ => rfl, fun _ _ _ _ => rfl, fun _ _ _ => rfl, fun _ _ _ => rfl, fun _ _ _ _ => rfl⟩
namespace Reg
section
variable {P : Program} {w : World} {o : Oper} {ρ : Operand → Value} {x y : Operand} {t rt e : TypeId}
theorem xt {ops : Array Oper} {Q : Exit → Act → World → Prop} {md : Region.Mode} {fuel l : Nat} {listed : Array Bool} {a : Act} {g xx : World → Prop} {v : Value} (i : Nat)
    (hrun : ∀ W, g W → (execOp a.eval o).run P W = .ok (.value v) W) (hk : (waits md ops l i && Region.noSelect ops && Region.free md ops listed i && (Region.ready md ops listed).contains i) = true) (hi : ops[i]? = some o) (hg : o.guard = none) (hQ : ∀ c a w, Q (.panic c) (a.put o.dst v) w → Q (.panic c) a w)
    (h : wpAnyX P md ops Q PW PR l fuel (listed.setIfInBounds i true) (a.put o.dst v) (g, xx)) : wpAnyX P md ops Q PW PR l (fuel + 1) listed a (g, xx) := by
  simp only [Bool.and_eq_true] at hk
  exact x_take i hi hk.1.1.1 hk.1.1.2 hk.1.2 hk.2 (wanted_plain hg) v hQ hrun h
theorem xq {ops : Array Oper} {Q : Act → Prop} {a : Act} {rest : List Oper} {v : Value} (hrun : ∀ n, (execOp a.eval o).run P (w.drewN n) = .ok (.value v) (w.drewN n)) (hg : o.guard = none)
    (h : wpQuiet P ops (fun w' => ∃ n, w' = w.drewN n) Q rest (a.put o.dst v)) : wpQuiet P ops (fun w' => ∃ n, w' = w.drewN n) Q (o :: rest) a := by
  unfold wpQuiet
  rw [if_pos (by simp [Region.wanted, hg])]
  exact ⟨v, fun w1 ⟨n, e⟩ => by subst e; unfold Oper.quietAt; rw [hrun]; exact ⟨rfl, rfl⟩, h⟩
theorem idx (ho : o.op = .indexAddr t x y) {n : Nat} (ht : P.underlying t = some (.array n e)) (hs : (P.info? e).map (·.size) = some 1) (g k : Nat) (hx : ρ x = .pointer (some ⟨g, 0, none⟩)) (hy : ρ y = .int .i64 (k : Int)) (hk : k < n) : (execOp ρ o).run P w = .ok (.value (.pointer (some ⟨g, k, none⟩))) w := by
  have hkn : (k : Int) < (n : Int) := by omega
  unfold execOp
  simp only [ho, hx, hy]
  simp [Instr.indexAt, run_underlying ht, asIntOf, run_sizeOf hs, hkn, Addr.add]
  by_cases h0 : k = 0
  · subst h0
    simp [hk, Instr.sureAddr]
  · simp [h0, hk, Instr.sureAddr]
theorem idxS (ho : o.op = .indexAddr t x y) (ht : P.underlying t = some (.slice e)) (hs : (P.info? e).map (·.size) = some 1) (ad : Addr) (n c k : Nat) (hx : ρ x = .slice (some ad) n c) (hy : ρ y = .int .i64 (k : Int)) (hk : k < n) : (execOp ρ o).run P w = .ok (.value (.pointer (some (ad.add k)))) w := by
  have hkn : (k : Int) < (n : Int) := by omega
  unfold execOp
  simp only [ho, hx, hy]
  simp [Instr.indexAt, run_underlying ht, asIntOf, run_sizeOf hs, hkn]
  intro hh; omega
theorem isAgg_no (hty : ((P.underlying t).map isAggD) = some false) : (isAgg t).run P w = .ok false w := by
  cases hq : P.underlying t with
  | none => simp [hq] at hty
  | some d =>
    unfold isAgg
    rw [Sem.run_bind, run_underlying hq w]
    rw [hq] at hty
    cases d <;> simp_all [isAggD]
theorem ld (hty : ((P.underlying t).map isAggD) = some false) (ho : o.op = .load t x) (ad : Addr) (v : Value) (hx : ρ x = .pointer (some ad)) (h : w.cell? ad = some v) : (execOp ρ o).run P w = .ok (.value v) w := by
  refine run_execOp_load ho hx ?_
  simp [loadVar, Sem.run_bind, isAgg_no hty, go_sem, h]
theorem st_ (hty : ((P.underlying t).map isAggD) = some false) (hs : (P.info? t).map (·.size) = some 1) (ho : o.op = .store t x y) (ad : Addr) (ik : IntKind) (z : Int) (u : Value) (hx : ρ x = .pointer (some ad)) (hy : ρ y = .int ik z) (h : w.cell? ad = some u) (hf : w.frozen? ad = false) : (execOp ρ o).run P w = .ok .skip (w.setCell ad (.int ik z)) := by
  unfold execOp
  simp only [ho, hx, hy]
  simp [Instr.storeAt, Instr.sureAddr, storeVar, Sem.run_bind, isAgg_no hty, run_sizeOf hs, storeCells, go_sem, h, hf]
theorem add32 (ho : o.op = .binOp .add t x y rt) (i j : UInt32) (hx : ρ x = .int .u32 ((n32 i : Nat) : Int)) (hy : ρ y = .int .u32 ((n32 j : Nat) : Int)) : (execOp ρ o).run P w = .ok (.value (.int .u32 ((n32 (i + j) : Nat) : Int))) w := by
  unfold execOp
  simp only [ho, hx, hy]
  simp [go_sem]
theorem xor32 (ho : o.op = .binOp .xor t x y rt) (i j : UInt32) (hx : ρ x = .int .u32 ((n32 i : Nat) : Int)) (hy : ρ y = .int .u32 ((n32 j : Nat) : Int)) : (execOp ρ o).run P w = .ok (.value (.int .u32 ((n32 (i ^^^ j) : Nat) : Int))) w := by
  unfold execOp
  simp only [ho, hx, hy]
  simp [go_sem]
theorem add64 (ho : o.op = .binOp .add t x y rt) (i j : UInt64) (hx : ρ x = .int .u64 ((n64 i : Nat) : Int)) (hy : ρ y = .int .u64 ((n64 j : Nat) : Int)) : (execOp ρ o).run P w = .ok (.value (.int .u64 ((n64 (i + j) : Nat) : Int))) w := by
  unfold execOp
  simp only [ho, hx, hy]
  simp [go_sem]
theorem mul64 (ho : o.op = .binOp .mul t x y rt) (i j : UInt64) (hx : ρ x = .int .u64 ((n64 i : Nat) : Int)) (hy : ρ y = .int .u64 ((n64 j : Nat) : Int)) : (execOp ρ o).run P w = .ok (.value (.int .u64 ((n64 (i * j) : Nat) : Int))) w := by
  unfold execOp
  simp only [ho, hx, hy]
  simp [go_sem]
theorem addN (ho : o.op = .binOp .add t x y rt) (i j k : Nat) (hk : i + j = k) (hk2 : k ≤ 1000000) (hx : ρ x = .int .i64 (i : Int)) (hy : ρ y = .int .i64 (j : Int)) : (execOp ρ o).run P w = .ok (.value (.int .i64 (k : Int))) w := by
  have e : IntKind.i64.wrap ((i : Int) + (j : Int)) = (k : Int) := by
    rw [show (i : Int) + (j : Int) = (k : Int) by omega]
    exact IntWalk.i64_in _ (by omega)
  unfold execOp
  simp only [ho, hx, hy]
  simp [go_sem, e]
end
theorem na32 : ((Try.prog.underlying 96).map isAggD) = some false := by kernel_rfl
theorem na64 : ((Try.prog.underlying 37).map isAggD) = some false := by kernel_rfl
theorem na8 : ((Try.prog.underlying 5).map isAggD) = some false := by kernel_rfl
theorem sz32 : (Try.prog.info? 96).map (·.size) = some 1 := by kernel_rfl
theorem sz64 : (Try.prog.info? 37).map (·.size) = some 1 := by kernel_rfl
theorem sz8 : (Try.prog.info? 5).map (·.size) = some 1 := by kernel_rfl
end Reg
end Go.Proofs.Ytbcboldepghgpaa

namespace Go.Proofs.Ytbcboldepghgpaa
open Go.RowKit
theorem Rc.left_any (x : UInt32) (n : Nat) (hn : n = 16 ∨ n = 12 ∨ n = 8 ∨ n = 7) (w : World) :
    Calls Try.prog 93 #[.int .u32 ((n32 x : Nat) : Int), .int .i64 (n : Int)] w fun e w' => e = .returned (.int .u32 ((n32 (Cha.rot x n) : Nat) : Int)) ∧ ∃ m, w' = w.drewN m := by
  obtain ⟨m, Hm⟩ : ∃ m, Hd (32 - n = m) := ⟨_, ⟨rfl⟩⟩
  have e1 : (32 : Int) - (n : Int) = (m : Int) := by have := Hm.out; omega
  have w2 : IntKind.i64.wrap (m : Int) = (m : Int) := IntWalk.i64_in _ (by have := Hm.out; omega)
  have t1 : (0 : Int) ≤ (n : Int) := by omega
  have t2 : (0 : Int) ≤ (m : Int) := by omega
  have Hr := hd (show Cha.rot x n = shl32 x n ||| shr32 x m by rw [Cha.rot, Hm.out])
  clear hn
  go_enter Try.func93, Try.ntmps93
  go_wp2_with fail
  go_quiet (fail)
  go_wp2
  go_ret
  exact ⟨by rw [Hr.out]; rfl, nq, rfl⟩
theorem Rc.shl_8 (x : UInt32) : shl32 x 8 = x <<< 8 := by
  apply UInt32.toNat_inj.1
  rw [UInt32.toNat_shiftLeft]
  unfold shl32
  simp [Nat.shiftLeft_eq]
theorem Rc.shl_16 (x : UInt32) : shl32 x 16 = x <<< 16 := by
  apply UInt32.toNat_inj.1
  rw [UInt32.toNat_shiftLeft]
  unfold shl32
  simp [Nat.shiftLeft_eq]
theorem Rc.shl_24 (x : UInt32) : shl32 x 24 = x <<< 24 := by
  apply UInt32.toNat_inj.1
  rw [UInt32.toNat_shiftLeft]
  unfold shl32
  simp [Nat.shiftLeft_eq]
theorem Rc.word_is (b : List UInt8) : ((((nth b 0).toUInt32 ||| (nth b 1).toUInt32 <<< 8) ||| (nth b 2).toUInt32 <<< 16) ||| (nth b 3).toUInt32 <<< 24) = Cha.wordTo b 4 := by
  have h : shl32 (nth b 0).toUInt32 (8 * 0) = (nth b 0).toUInt32 := by
    unfold shl32
    simp
  have h0 : (0 : UInt32) ||| (nth b 0).toUInt32 = (nth b 0).toUInt32 := by simp
  rw [Cha.wordTo, Cha.wordTo, Cha.wordTo, Cha.wordTo, Cha.wordTo, h, h0, ← Rc.shl_8, ← Rc.shl_16, ← Rc.shl_24]
theorem Rc.word_any (A : Option Addr) (c : Nat) (b : List UInt8) (w : World) (hr : ReadsB w w.heap.size A 4 b) :
    Calls Try.prog 78 #[.slice A 4 c] w fun e w' => e = .returned (.int .u32 ((n32 (Cha.wordTo b 4) : Nat) : Int)) ∧ ∃ m, w' = w.drewN m := by
  obtain ⟨ad, rfl, _, c0⟩ := hr.cell (k := 0) (by omega)
  obtain ⟨ad1, e1, _, c1⟩ := hr.cell (k := 1) (by omega)
  obtain ⟨ad2, e2, _, c2⟩ := hr.cell (k := 2) (by omega)
  obtain ⟨ad3, e3, _, c3⟩ := hr.cell (k := 3) (by omega)
  injection e1 with e1
  injection e2 with e2
  injection e3 with e3
  subst e1 e2 e3
  have c00 : w.cell? ad = some (.int .u8 (n8 (nth b 0))) := by rwa [Addr.add_zero'] at c0
  have c11 : w.cell? ⟨ad.block, ad.off + 1, none⟩ = some (.int .u8 (n8 (nth b 1))) := c1
  have c22 : w.cell? ⟨ad.block, ad.off + 2, none⟩ = some (.int .u8 (n8 (nth b 2))) := c2
  have c33 : w.cell? ⟨ad.block, ad.off + 3, none⟩ = some (.int .u8 (n8 (nth b 3))) := c3
  clear c0 c1 c2 c3
  have Hw := hd (Rc.word_is b)
  clear hr
  go_enter Try.func78, Try.ntmps78
  go_wp2_with fail
  go_quiet (fail)
  go_wp2
  go_ret
  rw [← Hw.out]
  exact ⟨rfl, nq, rfl⟩
-- QUARTER
theorem Rc.enter_left (args : Array Value) (w : World) : (callFunc 93 args).run Try.prog w = .ok (.enter 93 args) w := by kernel_rfl
theorem Rc.ret_vals {P : Program} {w : World} {fn : Func} {p : Tmp} {ty : TypeId} {R : Ending → World → Prop} {a : Act} (h : fn.results = #[.cell p ty]) (g : Nat) (hp : a.tmps.getD p undef = .pointer (some ⟨g, 0, none⟩)) {n : Nat} (ht : AggT P ty n) (xs : List Value) (hl : xs.length = n)
    (hc : Cells w ⟨g, 0, none⟩ xs) (hd : a.defers = []) (hR : R (.returned (.agg xs.toArray)) w) : bodyPost P fn R .ret a w := by
  refine bodyPost_ret (v := .agg xs.toArray) ?_ hd hR
  have hp' : a.tmps[p]?.getD undef = .pointer (some ⟨g, 0, none⟩) := by simpa using hp
  have := run_loadVar_cells (P := P) (w := w) ht ⟨g, 0, none⟩ xs hl hc.is
  simp [results, h, hp', asAddr, this]
structure Rc.Q (w : World) (s : List UInt32) (W : World) : Prop where
  bs : Blk W w.heap.size 133 (Cha.row s)
  bz : Blk W (w.heap.size + 1) 133 (Cha.row (List.replicate 16 0))
  old : Below w.heap.size w W
theorem Rc.Q.next {w W W' : World} {s : List UInt32} (h : Rc.Q w s W) (hb : Below W.heap.size W W') : Rc.Q w s W' := ⟨h.bs.below hb h.bs.lt, h.bz.below hb h.bz.lt, h.old.trans (hb.mono h.old.size)⟩
theorem Rc.Q.set_ {w W : World} {s : List UInt32} (h : Rc.Q w s W) (i : Nat) (x : UInt32) : Rc.Q w (s.set i x) (W.setCell ⟨w.heap.size, i, none⟩ (.int .u32 ((n32 x : Nat) : Int))) :=
  ⟨Cha.Blk.setW h.bs i x, h.bz.far (by simp) _, h.old.setCell (Nat.le_refl _) _⟩
set_option maxHeartbeats 8000000 in
set_option maxRecDepth 100000 in
theorem Rc.quarter_any (s : List UInt32) (a b c d : Nat) (ha : a < 16) (hb : b < 16) (hc : c < 16) (hd_ : d < 16) (hs : s.length = 16) (w : World) :
    Calls Try.prog 79 #[.agg (Cha.row s), .int .i64 (a : Int), .int .i64 (b : Int), .int .i64 (c : Int), .int .i64 (d : Int)] w fun e w' => e = .returned (.agg (Cha.row (Cha.quarter a b c d s))) ∧ Below w.heap.size w w' := by
  have ta : (a : Int) < 16 := by omega
  have tb : (b : Int) < 16 := by omega
  have tc : (c : Int) < 16 := by omega
  have td : (d : Int) < 16 := by omega
  have L0 := hd hs
  obtain ⟨s1, Hs1⟩ : ∃ x, Hd (Cha.half a b d 16 s = x) := ⟨_, ⟨rfl⟩⟩
  obtain ⟨s2, Hs2⟩ : ∃ x, Hd (Cha.half c d b 12 s1 = x) := ⟨_, ⟨rfl⟩⟩
  obtain ⟨s3, Hs3⟩ : ∃ x, Hd (Cha.half a b d 8 s2 = x) := ⟨_, ⟨rfl⟩⟩
  obtain ⟨s4, Hs4⟩ : ∃ x, Hd (Cha.half c d b 7 s3 = x) := ⟨_, ⟨rfl⟩⟩
  have Hq := hd (show Cha.quarter a b c d s = s4 by unfold Cha.quarter; rw [Hs1.out, Hs2.out, Hs3.out, Hs4.out])
  have L1 := hd (show s1.length = 16 by rw [← Hs1.out, Cha.half_len, hs])
  have L2 := hd (show s2.length = 16 by rw [← Hs2.out, Cha.half_len, L1.out])
  have L3 := hd (show s3.length = 16 by rw [← Hs3.out, Cha.half_len, L2.out])
  have L4 := hd (show s4.length = 16 by rw [← Hs4.out, Cha.half_len, L3.out])
  rw [Hq.out]
  clear hs
  go_enter Try.func79, Try.ntmps79
  go_wp2_with (first
    | (refine wpl_alloc rfl 133 rfl _ Cha.zeroW ?_; simp only [World.size_alloc]; refine wpl_name (Rc.Q w s) ⟨(Blk.nu rfl).alloc _, Blk.nu (by simp), ((Below.refl _ _).alloc (by simp) _).alloc (by simp) _⟩ ?_; intro W H0))
  simp only [PS]
  obtain ⟨t1, Ht1⟩ : ∃ x, Hd (s.set a (Cha.at_ s a + Cha.at_ s b) = x) := ⟨_, ⟨rfl⟩⟩
  have Hl := hd (show t1.length = 16 by rw [← Ht1.out, List.length_set, L0.out])
  have Hhf := hd (show t1.set d (Cha.rot (Cha.at_ t1 d ^^^ Cha.at_ t1 a) 16) = s1 by rw [← Hs1.out]; unfold Cha.half; rw [Ht1.out])
  refine x_start 9 (Rc.Q w s) (by kernel_rfl) (H0.next (Below.refl _ _).drew) ?_
  refine Reg.xt (v := .int .i64 (a : Int)) 0 (fun W hW => run_move (by rfl) (by simp [Act.eval]) W) (by kernel_rfl) rfl rfl (fun _ _ _ h => h) ?_
  simp only [PS]
  refine Reg.xt (v := .int .i64 (a : Int)) 1 (fun W hW => run_move (by rfl) (by simp [Act.eval]) W) (by kernel_rfl) rfl rfl (fun _ _ _ h => h) ?_
  simp only [PS]
  refine Reg.xt 2 (fun W hW => Reg.idx (by rfl) Try.underlying133 Reg.sz32 (w.heap.size) (a) (by simp [Act.eval]) (by simp [Act.eval]) ha) (by kernel_rfl) rfl rfl (fun _ _ _ h => h) ?_
  simp only [PS]
  refine Reg.xt (v := .int .u32 ((n32 (Cha.at_ s a) : Nat) : Int)) 3 (fun W hW => Reg.ld Reg.na32 (by rfl) ⟨w.heap.size, a, none⟩ _ (by simp [Act.eval]) (Cha.Blk.cellW hW.bs a (by rw [L0.out]; exact ha))) (by kernel_rfl) rfl rfl (fun _ _ _ h => h) ?_
  simp only [PS]
  refine Reg.xt (v := .int .i64 (b : Int)) 4 (fun W hW => run_move (by rfl) (by simp [Act.eval]) W) (by kernel_rfl) rfl rfl (fun _ _ _ h => h) ?_
  simp only [PS]
  refine Reg.xt 5 (fun W hW => Reg.idx (by rfl) Try.underlying133 Reg.sz32 (w.heap.size) (b) (by simp [Act.eval]) (by simp [Act.eval]) hb) (by kernel_rfl) rfl rfl (fun _ _ _ h => h) ?_
  simp only [PS]
  refine Reg.xt (v := .int .u32 ((n32 (Cha.at_ s b) : Nat) : Int)) 6 (fun W hW => Reg.ld Reg.na32 (by rfl) ⟨w.heap.size, b, none⟩ _ (by simp [Act.eval]) (Cha.Blk.cellW hW.bs b (by rw [L0.out]; exact hb))) (by kernel_rfl) rfl rfl (fun _ _ _ h => h) ?_
  simp only [PS]
  refine Reg.xt (v := .int .u32 ((n32 (Cha.at_ s a + Cha.at_ s b) : Nat) : Int)) 7 (fun W hW => Reg.add32 (by rfl) _ _ (by simp [Act.eval]) (by simp [Act.eval])) (by kernel_rfl) rfl rfl (fun _ _ _ h => h) ?_
  simp only [PS]
  refine Reg.xt 8 (fun W hW => Reg.idx (by rfl) Try.underlying133 Reg.sz32 (w.heap.size) (a) (by simp [Act.eval]) (by simp [Act.eval]) ha) (by kernel_rfl) rfl rfl (fun _ _ _ h => h) ?_
  simp only [PS]
  refine x_last (by kernel_rfl) (by kernel_rfl) (fun W hW _ => ?_) _
  refine op_skip (o := _) rfl (wanted_plain rfl) _ (Reg.st_ Reg.na32 Reg.sz32 (by rfl) ⟨w.heap.size, a, none⟩ .u32 ((n32 (Cha.at_ s a + Cha.at_ s b) : Nat) : Int) _ (by simp [Act.eval]) (by simp [Act.eval]) (Cha.Blk.cellW hW.bs a (by rw [L0.out]; exact ha)) (hW.bs.frozen a)) ?_
  simp only [PS]
  have Ha := hW.set_ a (Cha.at_ s a + Cha.at_ s b)
  rw [Ht1.out] at Ha
  go_wp2
  refine wp_name (Rc.Q w t1) Ha ?_
  clear Ha hW H0
  intro W0 H
  refine x_start 10 (Rc.Q w t1) (by kernel_rfl) (H.next (Below.refl _ _).drew) ?_
  refine Reg.xt (v := .int .i64 (d : Int)) 0 (fun W hW => run_move (by rfl) (by simp [Act.eval]) W) (by kernel_rfl) rfl rfl (fun _ _ _ h => h) ?_
  simp only [PS]
  refine Reg.xt (v := .int .i64 (d : Int)) 1 (fun W hW => run_move (by rfl) (by simp [Act.eval]) W) (by kernel_rfl) rfl rfl (fun _ _ _ h => h) ?_
  simp only [PS]
  refine Reg.xt 2 (fun W hW => Reg.idx (by rfl) Try.underlying133 Reg.sz32 (w.heap.size) (d) (by simp [Act.eval]) (by simp [Act.eval]) hd_) (by kernel_rfl) rfl rfl (fun _ _ _ h => h) ?_
  simp only [PS]
  refine Reg.xt (v := .int .u32 ((n32 (Cha.at_ t1 d) : Nat) : Int)) 3 (fun W hW => Reg.ld Reg.na32 (by rfl) ⟨w.heap.size, d, none⟩ _ (by simp [Act.eval]) (Cha.Blk.cellW hW.bs d (by rw [Hl.out]; exact hd_))) (by kernel_rfl) rfl rfl (fun _ _ _ h => h) ?_
  simp only [PS]
  refine Reg.xt (v := .int .i64 (a : Int)) 4 (fun W hW => run_move (by rfl) (by simp [Act.eval]) W) (by kernel_rfl) rfl rfl (fun _ _ _ h => h) ?_
  simp only [PS]
  refine Reg.xt 5 (fun W hW => Reg.idx (by rfl) Try.underlying133 Reg.sz32 (w.heap.size) (a) (by simp [Act.eval]) (by simp [Act.eval]) ha) (by kernel_rfl) rfl rfl (fun _ _ _ h => h) ?_
  simp only [PS]
  refine Reg.xt (v := .int .u32 ((n32 (Cha.at_ t1 a) : Nat) : Int)) 6 (fun W hW => Reg.ld Reg.na32 (by rfl) ⟨w.heap.size, a, none⟩ _ (by simp [Act.eval]) (Cha.Blk.cellW hW.bs a (by rw [Hl.out]; exact ha))) (by kernel_rfl) rfl rfl (fun _ _ _ h => h) ?_
  simp only [PS]
  refine Reg.xt (v := .int .u32 ((n32 (Cha.at_ t1 d ^^^ Cha.at_ t1 a) : Nat) : Int)) 7 (fun W hW => Reg.xor32 (by rfl) _ _ (by simp [Act.eval]) (by simp [Act.eval])) (by kernel_rfl) rfl rfl (fun _ _ _ h => h) ?_
  simp only [PS]
  refine x_one 8 (by kernel_rfl) (fun W hW _ => ?_)
  refine op_call (o := _) rfl (wanted_plain rfl) 93 _ _ rfl #[.int .u32 ((n32 (Cha.at_ t1 d ^^^ Cha.at_ t1 a) : Nat) : Int), .int .i64 16] (by simp [Act.eval]) (Rc.enter_left _) ?_
  refine (Rc.left_any (Cha.at_ t1 d ^^^ Cha.at_ t1 a) 16 (Or.inl rfl) W).mono ?_
  rintro e W5 ⟨rfl, m1, rfl⟩
  refine ⟨_, rfl, NextX.mk (Rc.Q w t1) (fun _ => True) (fun _ h => h) (hW.next (below_drewN (Below.refl _ _) _)) trivial ?_⟩
  simp only [PS]
  clear hW
  refine Reg.xt 9 (fun W hW => Reg.idx (by rfl) Try.underlying133 Reg.sz32 (w.heap.size) (d) (by simp [Act.eval]) (by simp [Act.eval]) hd_) (by kernel_rfl) rfl rfl (fun _ _ _ h => h) ?_
  simp only [PS]
  refine x_last (by kernel_rfl) (by kernel_rfl) (fun W hW _ => ?_) _
  refine op_skip (o := _) rfl (wanted_plain rfl) _ (Reg.st_ Reg.na32 Reg.sz32 (by rfl) ⟨w.heap.size, d, none⟩ .u32 ((n32 (Cha.rot (Cha.at_ t1 d ^^^ Cha.at_ t1 a) 16) : Nat) : Int) _ (by simp [Act.eval]) (by simp [Act.eval]) (Cha.Blk.cellW hW.bs d (by rw [Hl.out]; exact hd_)) (hW.bs.frozen d)) ?_
  simp only [PS]
  have Ha := hW.set_ d (Cha.rot (Cha.at_ t1 d ^^^ Cha.at_ t1 a) 16)
  rw [Hhf.out] at Ha
  go_wp2
  refine wp_name (Rc.Q w s1) Ha ?_
  clear Ha hW H Ht1 Hl Hhf
  intro W0 H1
  obtain ⟨t1, Ht1⟩ : ∃ x, Hd (s1.set c (Cha.at_ s1 c + Cha.at_ s1 d) = x) := ⟨_, ⟨rfl⟩⟩
  have Hl := hd (show t1.length = 16 by rw [← Ht1.out, List.length_set, L1.out])
  have Hhf := hd (show t1.set b (Cha.rot (Cha.at_ t1 b ^^^ Cha.at_ t1 c) 12) = s2 by rw [← Hs2.out]; unfold Cha.half; rw [Ht1.out])
  refine x_start 9 (Rc.Q w s1) (by kernel_rfl) (H1.next (Below.refl _ _).drew) ?_
  refine Reg.xt (v := .int .i64 (c : Int)) 0 (fun W hW => run_move (by rfl) (by simp [Act.eval]) W) (by kernel_rfl) rfl rfl (fun _ _ _ h => h) ?_
  simp only [PS]
  refine Reg.xt (v := .int .i64 (c : Int)) 1 (fun W hW => run_move (by rfl) (by simp [Act.eval]) W) (by kernel_rfl) rfl rfl (fun _ _ _ h => h) ?_
  simp only [PS]
  refine Reg.xt 2 (fun W hW => Reg.idx (by rfl) Try.underlying133 Reg.sz32 (w.heap.size) (c) (by simp [Act.eval]) (by simp [Act.eval]) hc) (by kernel_rfl) rfl rfl (fun _ _ _ h => h) ?_
  simp only [PS]
  refine Reg.xt (v := .int .u32 ((n32 (Cha.at_ s1 c) : Nat) : Int)) 3 (fun W hW => Reg.ld Reg.na32 (by rfl) ⟨w.heap.size, c, none⟩ _ (by simp [Act.eval]) (Cha.Blk.cellW hW.bs c (by rw [L1.out]; exact hc))) (by kernel_rfl) rfl rfl (fun _ _ _ h => h) ?_
  simp only [PS]
  refine Reg.xt (v := .int .i64 (d : Int)) 4 (fun W hW => run_move (by rfl) (by simp [Act.eval]) W) (by kernel_rfl) rfl rfl (fun _ _ _ h => h) ?_
  simp only [PS]
  refine Reg.xt 5 (fun W hW => Reg.idx (by rfl) Try.underlying133 Reg.sz32 (w.heap.size) (d) (by simp [Act.eval]) (by simp [Act.eval]) hd_) (by kernel_rfl) rfl rfl (fun _ _ _ h => h) ?_
  simp only [PS]
  refine Reg.xt (v := .int .u32 ((n32 (Cha.at_ s1 d) : Nat) : Int)) 6 (fun W hW => Reg.ld Reg.na32 (by rfl) ⟨w.heap.size, d, none⟩ _ (by simp [Act.eval]) (Cha.Blk.cellW hW.bs d (by rw [L1.out]; exact hd_))) (by kernel_rfl) rfl rfl (fun _ _ _ h => h) ?_
  simp only [PS]
  refine Reg.xt (v := .int .u32 ((n32 (Cha.at_ s1 c + Cha.at_ s1 d) : Nat) : Int)) 7 (fun W hW => Reg.add32 (by rfl) _ _ (by simp [Act.eval]) (by simp [Act.eval])) (by kernel_rfl) rfl rfl (fun _ _ _ h => h) ?_
  simp only [PS]
  refine Reg.xt 8 (fun W hW => Reg.idx (by rfl) Try.underlying133 Reg.sz32 (w.heap.size) (c) (by simp [Act.eval]) (by simp [Act.eval]) hc) (by kernel_rfl) rfl rfl (fun _ _ _ h => h) ?_
  simp only [PS]
  refine x_last (by kernel_rfl) (by kernel_rfl) (fun W hW _ => ?_) _
  refine op_skip (o := _) rfl (wanted_plain rfl) _ (Reg.st_ Reg.na32 Reg.sz32 (by rfl) ⟨w.heap.size, c, none⟩ .u32 ((n32 (Cha.at_ s1 c + Cha.at_ s1 d) : Nat) : Int) _ (by simp [Act.eval]) (by simp [Act.eval]) (Cha.Blk.cellW hW.bs c (by rw [L1.out]; exact hc)) (hW.bs.frozen c)) ?_
  simp only [PS]
  have Ha := hW.set_ c (Cha.at_ s1 c + Cha.at_ s1 d)
  rw [Ht1.out] at Ha
  go_wp2
  refine wp_name (Rc.Q w t1) Ha ?_
  clear Ha hW H1
  intro W0 H
  refine x_start 10 (Rc.Q w t1) (by kernel_rfl) (H.next (Below.refl _ _).drew) ?_
  refine Reg.xt (v := .int .i64 (b : Int)) 0 (fun W hW => run_move (by rfl) (by simp [Act.eval]) W) (by kernel_rfl) rfl rfl (fun _ _ _ h => h) ?_
  simp only [PS]
  refine Reg.xt (v := .int .i64 (b : Int)) 1 (fun W hW => run_move (by rfl) (by simp [Act.eval]) W) (by kernel_rfl) rfl rfl (fun _ _ _ h => h) ?_
  simp only [PS]
  refine Reg.xt 2 (fun W hW => Reg.idx (by rfl) Try.underlying133 Reg.sz32 (w.heap.size) (b) (by simp [Act.eval]) (by simp [Act.eval]) hb) (by kernel_rfl) rfl rfl (fun _ _ _ h => h) ?_
  simp only [PS]
  refine Reg.xt (v := .int .u32 ((n32 (Cha.at_ t1 b) : Nat) : Int)) 3 (fun W hW => Reg.ld Reg.na32 (by rfl) ⟨w.heap.size, b, none⟩ _ (by simp [Act.eval]) (Cha.Blk.cellW hW.bs b (by rw [Hl.out]; exact hb))) (by kernel_rfl) rfl rfl (fun _ _ _ h => h) ?_
  simp only [PS]
  refine Reg.xt (v := .int .i64 (c : Int)) 4 (fun W hW => run_move (by rfl) (by simp [Act.eval]) W) (by kernel_rfl) rfl rfl (fun _ _ _ h => h) ?_
  simp only [PS]
  refine Reg.xt 5 (fun W hW => Reg.idx (by rfl) Try.underlying133 Reg.sz32 (w.heap.size) (c) (by simp [Act.eval]) (by simp [Act.eval]) hc) (by kernel_rfl) rfl rfl (fun _ _ _ h => h) ?_
  simp only [PS]
  refine Reg.xt (v := .int .u32 ((n32 (Cha.at_ t1 c) : Nat) : Int)) 6 (fun W hW => Reg.ld Reg.na32 (by rfl) ⟨w.heap.size, c, none⟩ _ (by simp [Act.eval]) (Cha.Blk.cellW hW.bs c (by rw [Hl.out]; exact hc))) (by kernel_rfl) rfl rfl (fun _ _ _ h => h) ?_
  simp only [PS]
  refine Reg.xt (v := .int .u32 ((n32 (Cha.at_ t1 b ^^^ Cha.at_ t1 c) : Nat) : Int)) 7 (fun W hW => Reg.xor32 (by rfl) _ _ (by simp [Act.eval]) (by simp [Act.eval])) (by kernel_rfl) rfl rfl (fun _ _ _ h => h) ?_
  simp only [PS]
  refine x_one 8 (by kernel_rfl) (fun W hW _ => ?_)
  refine op_call (o := _) rfl (wanted_plain rfl) 93 _ _ rfl #[.int .u32 ((n32 (Cha.at_ t1 b ^^^ Cha.at_ t1 c) : Nat) : Int), .int .i64 12] (by simp [Act.eval]) (Rc.enter_left _) ?_
  refine (Rc.left_any (Cha.at_ t1 b ^^^ Cha.at_ t1 c) 12 (Or.inr (Or.inl rfl)) W).mono ?_
  rintro e W5 ⟨rfl, m1, rfl⟩
  refine ⟨_, rfl, NextX.mk (Rc.Q w t1) (fun _ => True) (fun _ h => h) (hW.next (below_drewN (Below.refl _ _) _)) trivial ?_⟩
  simp only [PS]
  clear hW
  refine Reg.xt 9 (fun W hW => Reg.idx (by rfl) Try.underlying133 Reg.sz32 (w.heap.size) (b) (by simp [Act.eval]) (by simp [Act.eval]) hb) (by kernel_rfl) rfl rfl (fun _ _ _ h => h) ?_
  simp only [PS]
  refine x_last (by kernel_rfl) (by kernel_rfl) (fun W hW _ => ?_) _
  refine op_skip (o := _) rfl (wanted_plain rfl) _ (Reg.st_ Reg.na32 Reg.sz32 (by rfl) ⟨w.heap.size, b, none⟩ .u32 ((n32 (Cha.rot (Cha.at_ t1 b ^^^ Cha.at_ t1 c) 12) : Nat) : Int) _ (by simp [Act.eval]) (by simp [Act.eval]) (Cha.Blk.cellW hW.bs b (by rw [Hl.out]; exact hb)) (hW.bs.frozen b)) ?_
  simp only [PS]
  have Ha := hW.set_ b (Cha.rot (Cha.at_ t1 b ^^^ Cha.at_ t1 c) 12)
  rw [Hhf.out] at Ha
  go_wp2
  refine wp_name (Rc.Q w s2) Ha ?_
  clear Ha hW H Ht1 Hl Hhf
  intro W0 H2
  obtain ⟨t1, Ht1⟩ : ∃ x, Hd (s2.set a (Cha.at_ s2 a + Cha.at_ s2 b) = x) := ⟨_, ⟨rfl⟩⟩
  have Hl := hd (show t1.length = 16 by rw [← Ht1.out, List.length_set, L2.out])
  have Hhf := hd (show t1.set d (Cha.rot (Cha.at_ t1 d ^^^ Cha.at_ t1 a) 8) = s3 by rw [← Hs3.out]; unfold Cha.half; rw [Ht1.out])
  refine x_start 9 (Rc.Q w s2) (by kernel_rfl) (H2.next (Below.refl _ _).drew) ?_
  refine Reg.xt (v := .int .i64 (a : Int)) 0 (fun W hW => run_move (by rfl) (by simp [Act.eval]) W) (by kernel_rfl) rfl rfl (fun _ _ _ h => h) ?_
  simp only [PS]
  refine Reg.xt (v := .int .i64 (a : Int)) 1 (fun W hW => run_move (by rfl) (by simp [Act.eval]) W) (by kernel_rfl) rfl rfl (fun _ _ _ h => h) ?_
  simp only [PS]
  refine Reg.xt 2 (fun W hW => Reg.idx (by rfl) Try.underlying133 Reg.sz32 (w.heap.size) (a) (by simp [Act.eval]) (by simp [Act.eval]) ha) (by kernel_rfl) rfl rfl (fun _ _ _ h => h) ?_
  simp only [PS]
  refine Reg.xt (v := .int .u32 ((n32 (Cha.at_ s2 a) : Nat) : Int)) 3 (fun W hW => Reg.ld Reg.na32 (by rfl) ⟨w.heap.size, a, none⟩ _ (by simp [Act.eval]) (Cha.Blk.cellW hW.bs a (by rw [L2.out]; exact ha))) (by kernel_rfl) rfl rfl (fun _ _ _ h => h) ?_
  simp only [PS]
  refine Reg.xt (v := .int .i64 (b : Int)) 4 (fun W hW => run_move (by rfl) (by simp [Act.eval]) W) (by kernel_rfl) rfl rfl (fun _ _ _ h => h) ?_
  simp only [PS]
  refine Reg.xt 5 (fun W hW => Reg.idx (by rfl) Try.underlying133 Reg.sz32 (w.heap.size) (b) (by simp [Act.eval]) (by simp [Act.eval]) hb) (by kernel_rfl) rfl rfl (fun _ _ _ h => h) ?_
  simp only [PS]
  refine Reg.xt (v := .int .u32 ((n32 (Cha.at_ s2 b) : Nat) : Int)) 6 (fun W hW => Reg.ld Reg.na32 (by rfl) ⟨w.heap.size, b, none⟩ _ (by simp [Act.eval]) (Cha.Blk.cellW hW.bs b (by rw [L2.out]; exact hb))) (by kernel_rfl) rfl rfl (fun _ _ _ h => h) ?_
  simp only [PS]
  refine Reg.xt (v := .int .u32 ((n32 (Cha.at_ s2 a + Cha.at_ s2 b) : Nat) : Int)) 7 (fun W hW => Reg.add32 (by rfl) _ _ (by simp [Act.eval]) (by simp [Act.eval])) (by kernel_rfl) rfl rfl (fun _ _ _ h => h) ?_
  simp only [PS]
  refine Reg.xt 8 (fun W hW => Reg.idx (by rfl) Try.underlying133 Reg.sz32 (w.heap.size) (a) (by simp [Act.eval]) (by simp [Act.eval]) ha) (by kernel_rfl) rfl rfl (fun _ _ _ h => h) ?_
  simp only [PS]
  refine x_last (by kernel_rfl) (by kernel_rfl) (fun W hW _ => ?_) _
  refine op_skip (o := _) rfl (wanted_plain rfl) _ (Reg.st_ Reg.na32 Reg.sz32 (by rfl) ⟨w.heap.size, a, none⟩ .u32 ((n32 (Cha.at_ s2 a + Cha.at_ s2 b) : Nat) : Int) _ (by simp [Act.eval]) (by simp [Act.eval]) (Cha.Blk.cellW hW.bs a (by rw [L2.out]; exact ha)) (hW.bs.frozen a)) ?_
  simp only [PS]
  have Ha := hW.set_ a (Cha.at_ s2 a + Cha.at_ s2 b)
  rw [Ht1.out] at Ha
  go_wp2
  refine wp_name (Rc.Q w t1) Ha ?_
  clear Ha hW H2
  intro W0 H
  refine x_start 10 (Rc.Q w t1) (by kernel_rfl) (H.next (Below.refl _ _).drew) ?_
  refine Reg.xt (v := .int .i64 (d : Int)) 0 (fun W hW => run_move (by rfl) (by simp [Act.eval]) W) (by kernel_rfl) rfl rfl (fun _ _ _ h => h) ?_
  simp only [PS]
  refine Reg.xt (v := .int .i64 (d : Int)) 1 (fun W hW => run_move (by rfl) (by simp [Act.eval]) W) (by kernel_rfl) rfl rfl (fun _ _ _ h => h) ?_
  simp only [PS]
  refine Reg.xt 2 (fun W hW => Reg.idx (by rfl) Try.underlying133 Reg.sz32 (w.heap.size) (d) (by simp [Act.eval]) (by simp [Act.eval]) hd_) (by kernel_rfl) rfl rfl (fun _ _ _ h => h) ?_
  simp only [PS]
  refine Reg.xt (v := .int .u32 ((n32 (Cha.at_ t1 d) : Nat) : Int)) 3 (fun W hW => Reg.ld Reg.na32 (by rfl) ⟨w.heap.size, d, none⟩ _ (by simp [Act.eval]) (Cha.Blk.cellW hW.bs d (by rw [Hl.out]; exact hd_))) (by kernel_rfl) rfl rfl (fun _ _ _ h => h) ?_
  simp only [PS]
  refine Reg.xt (v := .int .i64 (a : Int)) 4 (fun W hW => run_move (by rfl) (by simp [Act.eval]) W) (by kernel_rfl) rfl rfl (fun _ _ _ h => h) ?_
  simp only [PS]
  refine Reg.xt 5 (fun W hW => Reg.idx (by rfl) Try.underlying133 Reg.sz32 (w.heap.size) (a) (by simp [Act.eval]) (by simp [Act.eval]) ha) (by kernel_rfl) rfl rfl (fun _ _ _ h => h) ?_
  simp only [PS]
  refine Reg.xt (v := .int .u32 ((n32 (Cha.at_ t1 a) : Nat) : Int)) 6 (fun W hW => Reg.ld Reg.na32 (by rfl) ⟨w.heap.size, a, none⟩ _ (by simp [Act.eval]) (Cha.Blk.cellW hW.bs a (by rw [Hl.out]; exact ha))) (by kernel_rfl) rfl rfl (fun _ _ _ h => h) ?_
  simp only [PS]
  refine Reg.xt (v := .int .u32 ((n32 (Cha.at_ t1 d ^^^ Cha.at_ t1 a) : Nat) : Int)) 7 (fun W hW => Reg.xor32 (by rfl) _ _ (by simp [Act.eval]) (by simp [Act.eval])) (by kernel_rfl) rfl rfl (fun _ _ _ h => h) ?_
  simp only [PS]
  refine x_one 8 (by kernel_rfl) (fun W hW _ => ?_)
  refine op_call (o := _) rfl (wanted_plain rfl) 93 _ _ rfl #[.int .u32 ((n32 (Cha.at_ t1 d ^^^ Cha.at_ t1 a) : Nat) : Int), .int .i64 8] (by simp [Act.eval]) (Rc.enter_left _) ?_
  refine (Rc.left_any (Cha.at_ t1 d ^^^ Cha.at_ t1 a) 8 (Or.inr (Or.inr (Or.inl rfl))) W).mono ?_
  rintro e W5 ⟨rfl, m1, rfl⟩
  refine ⟨_, rfl, NextX.mk (Rc.Q w t1) (fun _ => True) (fun _ h => h) (hW.next (below_drewN (Below.refl _ _) _)) trivial ?_⟩
  simp only [PS]
  clear hW
  refine Reg.xt 9 (fun W hW => Reg.idx (by rfl) Try.underlying133 Reg.sz32 (w.heap.size) (d) (by simp [Act.eval]) (by simp [Act.eval]) hd_) (by kernel_rfl) rfl rfl (fun _ _ _ h => h) ?_
  simp only [PS]
  refine x_last (by kernel_rfl) (by kernel_rfl) (fun W hW _ => ?_) _
  refine op_skip (o := _) rfl (wanted_plain rfl) _ (Reg.st_ Reg.na32 Reg.sz32 (by rfl) ⟨w.heap.size, d, none⟩ .u32 ((n32 (Cha.rot (Cha.at_ t1 d ^^^ Cha.at_ t1 a) 8) : Nat) : Int) _ (by simp [Act.eval]) (by simp [Act.eval]) (Cha.Blk.cellW hW.bs d (by rw [Hl.out]; exact hd_)) (hW.bs.frozen d)) ?_
  simp only [PS]
  have Ha := hW.set_ d (Cha.rot (Cha.at_ t1 d ^^^ Cha.at_ t1 a) 8)
  rw [Hhf.out] at Ha
  go_wp2
  refine wp_name (Rc.Q w s3) Ha ?_
  clear Ha hW H Ht1 Hl Hhf
  intro W0 H3
  obtain ⟨t1, Ht1⟩ : ∃ x, Hd (s3.set c (Cha.at_ s3 c + Cha.at_ s3 d) = x) := ⟨_, ⟨rfl⟩⟩
  have Hl := hd (show t1.length = 16 by rw [← Ht1.out, List.length_set, L3.out])
  have Hhf := hd (show t1.set b (Cha.rot (Cha.at_ t1 b ^^^ Cha.at_ t1 c) 7) = s4 by rw [← Hs4.out]; unfold Cha.half; rw [Ht1.out])
  refine x_start 9 (Rc.Q w s3) (by kernel_rfl) (H3.next (Below.refl _ _).drew) ?_
  refine Reg.xt (v := .int .i64 (c : Int)) 0 (fun W hW => run_move (by rfl) (by simp [Act.eval]) W) (by kernel_rfl) rfl rfl (fun _ _ _ h => h) ?_
  simp only [PS]
  refine Reg.xt (v := .int .i64 (c : Int)) 1 (fun W hW => run_move (by rfl) (by simp [Act.eval]) W) (by kernel_rfl) rfl rfl (fun _ _ _ h => h) ?_
  simp only [PS]
  refine Reg.xt 2 (fun W hW => Reg.idx (by rfl) Try.underlying133 Reg.sz32 (w.heap.size) (c) (by simp [Act.eval]) (by simp [Act.eval]) hc) (by kernel_rfl) rfl rfl (fun _ _ _ h => h) ?_
  simp only [PS]
  refine Reg.xt (v := .int .u32 ((n32 (Cha.at_ s3 c) : Nat) : Int)) 3 (fun W hW => Reg.ld Reg.na32 (by rfl) ⟨w.heap.size, c, none⟩ _ (by simp [Act.eval]) (Cha.Blk.cellW hW.bs c (by rw [L3.out]; exact hc))) (by kernel_rfl) rfl rfl (fun _ _ _ h => h) ?_
  simp only [PS]
  refine Reg.xt (v := .int .i64 (d : Int)) 4 (fun W hW => run_move (by rfl) (by simp [Act.eval]) W) (by kernel_rfl) rfl rfl (fun _ _ _ h => h) ?_
  simp only [PS]
  refine Reg.xt 5 (fun W hW => Reg.idx (by rfl) Try.underlying133 Reg.sz32 (w.heap.size) (d) (by simp [Act.eval]) (by simp [Act.eval]) hd_) (by kernel_rfl) rfl rfl (fun _ _ _ h => h) ?_
  simp only [PS]
  refine Reg.xt (v := .int .u32 ((n32 (Cha.at_ s3 d) : Nat) : Int)) 6 (fun W hW => Reg.ld Reg.na32 (by rfl) ⟨w.heap.size, d, none⟩ _ (by simp [Act.eval]) (Cha.Blk.cellW hW.bs d (by rw [L3.out]; exact hd_))) (by kernel_rfl) rfl rfl (fun _ _ _ h => h) ?_
  simp only [PS]
  refine Reg.xt (v := .int .u32 ((n32 (Cha.at_ s3 c + Cha.at_ s3 d) : Nat) : Int)) 7 (fun W hW => Reg.add32 (by rfl) _ _ (by simp [Act.eval]) (by simp [Act.eval])) (by kernel_rfl) rfl rfl (fun _ _ _ h => h) ?_
  simp only [PS]
  refine Reg.xt 8 (fun W hW => Reg.idx (by rfl) Try.underlying133 Reg.sz32 (w.heap.size) (c) (by simp [Act.eval]) (by simp [Act.eval]) hc) (by kernel_rfl) rfl rfl (fun _ _ _ h => h) ?_
  simp only [PS]
  refine x_last (by kernel_rfl) (by kernel_rfl) (fun W hW _ => ?_) _
  refine op_skip (o := _) rfl (wanted_plain rfl) _ (Reg.st_ Reg.na32 Reg.sz32 (by rfl) ⟨w.heap.size, c, none⟩ .u32 ((n32 (Cha.at_ s3 c + Cha.at_ s3 d) : Nat) : Int) _ (by simp [Act.eval]) (by simp [Act.eval]) (Cha.Blk.cellW hW.bs c (by rw [L3.out]; exact hc)) (hW.bs.frozen c)) ?_
  simp only [PS]
  have Ha := hW.set_ c (Cha.at_ s3 c + Cha.at_ s3 d)
  rw [Ht1.out] at Ha
  go_wp2
  refine wp_name (Rc.Q w t1) Ha ?_
  clear Ha hW H3
  intro W0 H
  refine x_start 10 (Rc.Q w t1) (by kernel_rfl) (H.next (Below.refl _ _).drew) ?_
  refine Reg.xt (v := .int .i64 (b : Int)) 0 (fun W hW => run_move (by rfl) (by simp [Act.eval]) W) (by kernel_rfl) rfl rfl (fun _ _ _ h => h) ?_
  simp only [PS]
  refine Reg.xt (v := .int .i64 (b : Int)) 1 (fun W hW => run_move (by rfl) (by simp [Act.eval]) W) (by kernel_rfl) rfl rfl (fun _ _ _ h => h) ?_
  simp only [PS]
  refine Reg.xt 2 (fun W hW => Reg.idx (by rfl) Try.underlying133 Reg.sz32 (w.heap.size) (b) (by simp [Act.eval]) (by simp [Act.eval]) hb) (by kernel_rfl) rfl rfl (fun _ _ _ h => h) ?_
  simp only [PS]
  refine Reg.xt (v := .int .u32 ((n32 (Cha.at_ t1 b) : Nat) : Int)) 3 (fun W hW => Reg.ld Reg.na32 (by rfl) ⟨w.heap.size, b, none⟩ _ (by simp [Act.eval]) (Cha.Blk.cellW hW.bs b (by rw [Hl.out]; exact hb))) (by kernel_rfl) rfl rfl (fun _ _ _ h => h) ?_
  simp only [PS]
  refine Reg.xt (v := .int .i64 (c : Int)) 4 (fun W hW => run_move (by rfl) (by simp [Act.eval]) W) (by kernel_rfl) rfl rfl (fun _ _ _ h => h) ?_
  simp only [PS]
  refine Reg.xt 5 (fun W hW => Reg.idx (by rfl) Try.underlying133 Reg.sz32 (w.heap.size) (c) (by simp [Act.eval]) (by simp [Act.eval]) hc) (by kernel_rfl) rfl rfl (fun _ _ _ h => h) ?_
  simp only [PS]
  refine Reg.xt (v := .int .u32 ((n32 (Cha.at_ t1 c) : Nat) : Int)) 6 (fun W hW => Reg.ld Reg.na32 (by rfl) ⟨w.heap.size, c, none⟩ _ (by simp [Act.eval]) (Cha.Blk.cellW hW.bs c (by rw [Hl.out]; exact hc))) (by kernel_rfl) rfl rfl (fun _ _ _ h => h) ?_
  simp only [PS]
  refine Reg.xt (v := .int .u32 ((n32 (Cha.at_ t1 b ^^^ Cha.at_ t1 c) : Nat) : Int)) 7 (fun W hW => Reg.xor32 (by rfl) _ _ (by simp [Act.eval]) (by simp [Act.eval])) (by kernel_rfl) rfl rfl (fun _ _ _ h => h) ?_
  simp only [PS]
  refine x_one 8 (by kernel_rfl) (fun W hW _ => ?_)
  refine op_call (o := _) rfl (wanted_plain rfl) 93 _ _ rfl #[.int .u32 ((n32 (Cha.at_ t1 b ^^^ Cha.at_ t1 c) : Nat) : Int), .int .i64 7] (by simp [Act.eval]) (Rc.enter_left _) ?_
  refine (Rc.left_any (Cha.at_ t1 b ^^^ Cha.at_ t1 c) 7 (Or.inr (Or.inr (Or.inr rfl))) W).mono ?_
  rintro e W5 ⟨rfl, m1, rfl⟩
  refine ⟨_, rfl, NextX.mk (Rc.Q w t1) (fun _ => True) (fun _ h => h) (hW.next (below_drewN (Below.refl _ _) _)) trivial ?_⟩
  simp only [PS]
  clear hW
  refine Reg.xt 9 (fun W hW => Reg.idx (by rfl) Try.underlying133 Reg.sz32 (w.heap.size) (b) (by simp [Act.eval]) (by simp [Act.eval]) hb) (by kernel_rfl) rfl rfl (fun _ _ _ h => h) ?_
  simp only [PS]
  refine x_last (by kernel_rfl) (by kernel_rfl) (fun W hW _ => ?_) _
  refine op_skip (o := _) rfl (wanted_plain rfl) _ (Reg.st_ Reg.na32 Reg.sz32 (by rfl) ⟨w.heap.size, b, none⟩ .u32 ((n32 (Cha.rot (Cha.at_ t1 b ^^^ Cha.at_ t1 c) 7) : Nat) : Int) _ (by simp [Act.eval]) (by simp [Act.eval]) (Cha.Blk.cellW hW.bs b (by rw [Hl.out]; exact hb)) (hW.bs.frozen b)) ?_
  simp only [PS]
  have Ha := hW.set_ b (Cha.rot (Cha.at_ t1 b ^^^ Cha.at_ t1 c) 7)
  rw [Hhf.out] at Ha
  go_upto_region 9 with fail
  refine wp_name (Rc.Q w s4) Ha ?_
  clear Ha hW H Ht1 Hl Hhf
  intro W0 H4
  go_wp2_with (first
    | (refine wpl_load rfl 133 _ rfl ⟨w.heap.size, 0, none⟩ rfl 16 Cha.aggW (s4.map Cha.V) (by rw [List.length_map, L4.out]) H4.bs.cells ?_)
    | (refine wpl_store rfl 133 _ _ rfl (w.heap.size + 1) 0 (s4.map Cha.V) rfl rfl 133 _ H4.bz (by rw [List.length_map, L4.out]; kernel_rfl) (by rw [List.length_map, L4.out]; decide) (by simp [Cha.V, Value.oneCell']) ?_; rw [splice_all _ _ (by rw [List.length_map, L4.out]; rfl)]))
  exact Rc.ret_vals rfl (w.heap.size + 1) rfl Cha.aggW (s4.map Cha.V) (by rw [List.length_map, L4.out]) (H4.bz.setRow _).cells rfl ⟨rfl, below_setRow H4.old (by omega) _⟩
end Go.Proofs.Ytbcboldepghgpaa

namespace Go.Proofs.Ytbcboldepghgpaa
open Go.RowKit
namespace Rc
theorem nth_take (l : List UInt8) (n i : Nat) (h : i < n) : nth (l.take n) i = nth l i := by
  unfold nth
  rw [List.getD_eq_getElem?_getD, List.getD_eq_getElem?_getD, List.getElem?_take, if_pos h]
theorem wordTo_take (l : List UInt8) : Cha.wordTo (l.take 4) 4 = Cha.wordTo l 4 := by
  simp only [Cha.wordTo]
  rw [nth_take _ _ _ (by decide), nth_take _ _ _ (by decide), nth_take _ _ _ (by decide), nth_take _ _ _ (by decide)]
def sk (key : List UInt8) : Nat → List UInt32
  | 0 => Cha.s1
  | i + 1 => (sk key i).set (4 + i) (Cha.wordTo (key.drop (4 * i)) 4)
theorem sk_len (key : List UInt8) : ∀ i, (sk key i).length = 16
  | 0 => rfl
  | i + 1 => by rw [sk, List.length_set, sk_len key i]
theorem sk_all (key : List UInt8) : sk key 8 = Cha.s2 key := rfl
def sn (key nonce : List UInt8) (c : UInt32) : Nat → List UInt32
  | 0 => Cha.s3 key c
  | i + 1 => (sn key nonce c i).set (13 + i) (Cha.wordTo (nonce.drop (4 * i)) 4)
theorem sn_len (key nonce : List UInt8) (c : UInt32) : ∀ i, (sn key nonce c i).length = 16
  | 0 => Cha.s3_len key c
  | i + 1 => by rw [sn, List.length_set, sn_len key nonce c i]
theorem sn_all (key nonce : List UInt8) (c : UInt32) : sn key nonce c 3 = Cha.start key c nonce := rfl
theorem sk_next (key : List UInt8) (i : Nat) : sk key (i + 1) = (sk key i).set (4 + i) (Cha.wordTo (key.drop (4 * i)) 4) := by rw [sk]
theorem sn_next (key nonce : List UInt8) (c : UInt32) (i : Nat) : sn key nonce c (i + 1) = (sn key nonce c i).set (13 + i) (Cha.wordTo (nonce.drop (4 * i)) 4) := by rw [sn]
attribute [irreducible] sk sn
section
variable {P : Program} {w : World} {o : Oper} {ρ : Operand → Value} {x y z : Operand} {t rt e : TypeId}
theorem sliceA (ho : o.op = .slice t x (some y) (some z) none) {n : Nat} (ht : P.underlying t = some (.array n e)) (hs : (P.info? e).map (·.size) = some 1) (g lo hi : Nat) (hx : ρ x = .pointer (some ⟨g, 0, none⟩)) (hy : ρ y = .int .i64 (lo : Int)) (hz : ρ z = .int .i64 (hi : Int)) (h1 : lo ≤ hi) (h2 : hi ≤ n) (h3 : lo < n) (m c : Nat) (hm : hi - lo = m) (hc : n - lo = c) : (execOp ρ o).run P w = .ok (.value (.slice (some ⟨g, lo, none⟩) m c)) w := by
  subst hm hc
  have k1 : (lo : Int) ≤ (hi : Int) := by omega
  have k2 : (hi : Int) ≤ (n : Int) := by omega
  have k3 : ¬ n ≤ lo := by omega
  unfold execOp
  simp only [ho, hx, hy, hz]
  simp [go_sem, Instr.sliceAt, Instr.slice, Instr.sliceBounds, Instr.sliceBound, run_underlying ht, run_sizeOf hs, asIntOf, hy, hz, k1, k2, k3, Addr.add, h1, h2]
  have k5 : (0 : Int) ≤ (hi : Int) := by omega
  have k6 : ¬ n = lo := by omega
  by_cases h0 : lo = 0 <;> simp [h0, k5, k6, k1, h1]
theorem remN (ho : o.op = .binOp .rem t x y rt) (i j k : Nat) (hj : 0 < j) (hk : i % j = k) (hx : ρ x = .int .i64 (i : Int)) (hy : ρ y = .int .i64 (j : Int)) : (execOp ρ o).run P w = .ok (.value (.int .i64 (k : Int))) w := by
  subst hk
  have hj0 : ¬ (j : Int) = 0 := by omega
  have hj1 : ¬ j = 0 := by omega
  unfold execOp
  simp only [ho, hx, hy]
  simp [go_sem, hj0, hj1]
  rw [Int.tmod_eq_emod_of_nonneg (by omega)]
theorem mulN (ho : o.op = .binOp .mul t x y rt) (i j k : Nat) (hk : i * j = k) (hk2 : k ≤ 1000000) (hx : ρ x = .int .i64 (i : Int)) (hy : ρ y = .int .i64 (j : Int)) : (execOp ρ o).run P w = .ok (.value (.int .i64 (k : Int))) w := by
  have e : IntKind.i64.wrap ((i : Int) * (j : Int)) = (k : Int) := by
    rw [show (i : Int) * (j : Int) = (k : Int) by rw [← hk]; rfl]
    exact IntWalk.i64_in _ (by omega)
  unfold execOp
  simp only [ho, hx, hy]
  simp [go_sem, e]
end
theorem enter_word (args : Array Value) (w : World) : (callFunc 78 args).run Try.prog w = .ok (.enter 78 args) w := by kernel_rfl
theorem sub_reads {w : World} {g B n lo : Nat} {t : TypeId} {l : List UInt8} (h : Blk w g t (arr l)) (hl : l.length = n) (hg : g < B) (h4 : lo + 4 ≤ n) : ReadsB w B (some ⟨g, lo, none⟩) 4 ((l.drop lo).take 4) :=
  ⟨by rw [List.length_take, List.length_drop]; omega, ⟨by rw [List.length_map, List.length_take, List.length_drop]; omega, fun _ => ⟨_, rfl, hg, fun i u hu => by
    rw [Addr.add_lit, h.cell, ← hu]
    have hi : i < 4 := by
      have h1 := (List.getElem?_eq_some_iff.1 hu).1
      rw [List.length_map, List.length_take] at h1
      omega
    simp [arr, List.getElem?_take, hi]⟩⟩⟩
structure B2 (w : World) (key nonce : List UInt8) (s0 : List UInt32) (y : Nat) (s : List UInt32) (W : World) : Prop where
  st : Cha.St w key nonce s W
  bw : Blk W y 133 (Cha.row s0)
theorem B2.next {w W W' : World} {key nonce : List UInt8} {s0 s : List UInt32} {y : Nat} (h : B2 w key nonce s0 y s W) (hb : Below W.heap.size W W') : B2 w key nonce s0 y s W' := ⟨h.st.next hb, h.bw.below hb h.bw.lt⟩
theorem B2.put {w W : World} {key nonce : List UInt8} {s0 s : List UInt32} {y : Nat} (h : B2 w key nonce s0 y s W) (hy : w.heap.size + 1 + 1 + 1 < y) (s' : List UInt32) : B2 w key nonce s0 y s' (W.setRow (w.heap.size + 1 + 1 + 1) (Cha.row s')) := ⟨h.st.put s', h.bw.farRow (by omega) _⟩
end Rc
set_option maxHeartbeats 16000000 in
set_option maxRecDepth 100000 in
theorem Rc.block_any (key nonce : List UInt8) (count : UInt32) (hk : key.length = 32) (hn : nonce.length = 12) (w : World) :
    Calls Try.prog 62 #[.agg (arr key), .int .u32 ((n32 count : Nat) : Int), .agg (arr nonce)] w fun e w' => e = .returned (.agg (arr (Cha.block key count nonce))) ∧ Below w.heap.size w w' := by
  have HK := hd hk
  have HN := hd hn
  clear hk hn
  obtain ⟨s0, Hs0⟩ : ∃ s, Hd (Cha.start key count nonce = s) := ⟨_, ⟨rfl⟩⟩
  have L0 := hd (show s0.length = 16 by rw [← Hs0.out, Cha.start_len])
  have Hbl := hd (show Cha.block key count nonce = Cha.ended s0 (Cha.rounds s0) by rw [← Hs0.out]; rfl)
  rw [Hbl.out]
  go_enter Try.func62, Try.ntmps62
  go_wp2_with (first
    | (refine wpl_alloc rfl 111 rfl _ Cha.zero64 ?_)
    | (refine wpl_build rfl 133 [(0, .const (.int .u32 1634760805)), (1, .const (.int .u32 857760878)), (2, .const (.int .u32 2036477234)), (3, .const (.int .u32 1797285236))] rfl [(0, .int .u32 1634760805), (1, .int .u32 857760878), (2, .int .u32 2036477234), (3, .int .u32 1797285236)] rfl (Cha.row Cha.s1) (by kernel_rfl) ?_)
    | (refine wpl_alloc rfl 133 rfl _ Cha.zeroW ?_; simp only [World.size_alloc]; refine wpl_name (Cha.St w key nonce (List.replicate 16 0)) ⟨(((Blk.nu rfl).alloc _).alloc _).alloc _, ((Blk.nu (by simp)).alloc _).alloc _, (Blk.nu (by simp)).alloc _, Blk.nu (by simp), ((((Below.refl _ _).alloc (by simp) _).alloc (by simp) _).alloc (by simp <;> omega) _).alloc (by simp <;> omega) _⟩ ?_; intro W1 H1)
    | (refine wpl_store rfl 133 _ _ rfl (w.heap.size + 1 + 1 + 1) 0 (Cha.s1.map Cha.V) rfl rfl 133 _ H1.bs (by kernel_rfl) (by decide) (by simp [Cha.V, Value.oneCell']) ?_; rw [splice_all _ _ (by rfl)]; refine wpl_name (Cha.St w key nonce Cha.s1) (H1.put Cha.s1) ?_; clear H1; intro W1 H1))
  go_loopw [8] (fun i wr => ∃ k : Nat, k ≤ 8 ∧ i = .int .i64 (k : Int) ∧ Cha.St w key nonce (Rc.sk key k) wr) (fun i _ => 8 - (intOf i).toNat)
  case atStart => exact ⟨0, by omega, rfl, by unfold Rc.sk; exact H1⟩
  case round =>
    clear H1
    obtain ⟨k, hk, rfl, H1⟩ := hrel
    by_cases hlt : k < 8
    · have tk : (k : Int) < 8 := by omega
      obtain ⟨x, Hx⟩ : ∃ x, Hd (Cha.wordTo (key.drop (4 * k)) 4 = x) := ⟨_, ⟨rfl⟩⟩
      obtain ⟨J, HJ⟩ : ∃ J, Hd (4 * k = J) := ⟨_, ⟨rfl⟩⟩
      obtain ⟨B, HB⟩ : ∃ B, Hd (4 + k = B) := ⟨_, ⟨rfl⟩⟩
      obtain ⟨E, HE⟩ : ∃ E, Hd (J + 4 = E) := ⟨_, ⟨rfl⟩⟩
      obtain ⟨C, HC⟩ : ∃ C, Hd (32 - J = C) := ⟨_, ⟨rfl⟩⟩
      have Hb := hd (show B < 16 ∧ J + 4 ≤ 32 by have := HJ.out; have := HB.out; omega)
      have hnx : Rc.sk key (k + 1) = (Rc.sk key k).set B x := by rw [Rc.sk_next, HB.out, Hx.out]
      have Hnx := hd hnx
      clear hnx
      obtain ⟨s, Hs⟩ : ∃ s, Hd (Rc.sk key k = s) := ⟨_, ⟨rfl⟩⟩
      have Ls := hd (show s.length = 16 by rw [← Hs.out]; exact Rc.sk_len key k)
      rw [Hs.out] at H1 Hnx
      have hrw := Rc.sub_reads (w := wr) (B := wr.heap.size) (lo := J) H1.bk HK.out H1.bk.lt Hb.out.2
      have Hw := hd (Rc.word_any (some ⟨w.heap.size, J, none⟩) C ((key.drop J).take 4) wr hrw)
      rw [Rc.wordTo_take, ← HJ.out, Hx.out, HJ.out] at Hw
      clear hrw
      have c1 := Cha.Blk.cellW H1.bs B (by rw [Ls.out]; exact Hb.out.1)
      have f1 := H1.bs.frozen B
      go_wp2_with (first
        | (with_reducible change wpList _ _ _ (⟨some 23, _, _, _, _, _⟩ :: _) _ _; refine wpl_run (o := ⟨some 23, _, _, _, _, _⟩) (wanted_plain rfl) (.int .i64 ((B : Nat) : Int)) (Reg.addN (by rfl) 4 k B HB.out (by have := Hb.out; omega) (by simp [Act.eval, Act.put]) (by simp [Act.eval, Act.put])) ?_)
        | (with_reducible change wpList _ _ _ (⟨some 25, _, _, _, _, _⟩ :: _) _ _; refine wpl_run (o := ⟨some 25, _, _, _, _, _⟩) (wanted_plain rfl) (.int .i64 ((J : Nat) : Int)) (Rc.mulN (by rfl) 4 k J HJ.out (by have := Hb.out; omega) (by simp [Act.eval, Act.put]) (by simp [Act.eval, Act.put])) ?_)
        | (with_reducible change wpList _ _ _ (⟨some 27, _, _, _, _, _⟩ :: _) _ _; refine wpl_run (o := ⟨some 27, _, _, _, _, _⟩) (wanted_plain rfl) (.int .i64 ((J : Nat) : Int)) (Rc.mulN (by rfl) 4 k J HJ.out (by have := Hb.out; omega) (by simp [Act.eval, Act.put]) (by simp [Act.eval, Act.put])) ?_)
        | (with_reducible change wpList _ _ _ (⟨some 28, _, _, _, _, _⟩ :: _) _ _; refine wpl_run (o := ⟨some 28, _, _, _, _, _⟩) (wanted_plain rfl) (.int .i64 ((E : Nat) : Int)) (Reg.addN (by rfl) J 4 E HE.out (by have := Hb.out; have := HE.out; omega) (by simp [Act.eval, Act.put]) (by simp [Act.eval, Act.put])) ?_)
        | (with_reducible change wpList _ _ _ (⟨some 29, _, _, _, _, _⟩ :: _) _ _; refine wpl_run (o := ⟨some 29, _, _, _, _, _⟩) (wanted_plain rfl) (.slice (some ⟨w.heap.size, J, none⟩) 4 C) (Rc.sliceA (by rfl) Try.underlying68 Reg.sz8 (w.heap.size) J E (by simp [Act.eval, Act.put]) (by simp [Act.eval, Act.put]) (by simp [Act.eval, Act.put]) (by have := HE.out; omega) (by have := Hb.out; have := HE.out; omega) (by have := Hb.out; omega) 4 C (by have := HE.out; omega) HC.out) ?_)
        | (go_at_call 78; refine Hw.out.mono ?_; rintro e W2 ⟨rfl, m1, rfl⟩)
        | (with_reducible change wpList _ _ _ (⟨some 31, _, _, _, _, _⟩ :: _) _ _; refine wpl_run (o := ⟨some 31, _, _, _, _, _⟩) (wanted_plain rfl) (.pointer (some ⟨w.heap.size + 1 + 1 + 1, B, none⟩)) (Reg.idx (by rfl) Try.underlying133 Reg.sz32 (w.heap.size + 1 + 1 + 1) B (by simp [Act.eval, Act.put]) (by simp [Act.eval, Act.put]) Hb.out.1) ?_))
      go_roundw
      case rel => exact ⟨k + 1, by omega, by go_num, by rw [Hnx.out]; first | exact (H1.next (below_drewN (Below.refl _ _) m1)).set_ B x | exact (H1.set_ B x).next (below_drewN (Below.refl _ _) m1)⟩
      case measure => simp [intOf]; omega
    · have ek : k = 8 := by omega
      subst ek
      have tk : ¬ ((8 : Nat) : Int) < 8 := by omega
      rw [Rc.sk_all] at H1
      have f12 := H1.bs.frozen 12
      have c12 := Cha.Blk.cellW H1.bs 12 (by rw [Cha.s2_len]; omega)
      have H2 := H1.set_ 12 count
      rw [Cha.s3_is] at H2
      go_wp2
      clear f12 c12 H1
      obtain ⟨W2, HW2⟩ : ∃ x, Hd (wr.setCell ⟨w.heap.size + 1 + 1 + 1, 12, none⟩ (.int .u32 ((n32 count : Nat) : Int)) = x) := ⟨_, ⟨rfl⟩⟩
      rw [HW2.out] at H2 ⊢
      have H1 := H2
      clear H2 HW2
      go_loopw [9] (fun i wr => ∃ k : Nat, k ≤ 3 ∧ i = .int .i64 (k : Int) ∧ Cha.St w key nonce (Rc.sn key nonce count k) wr) (fun i _ => 3 - (intOf i).toNat)
      case atStart => exact ⟨0, by omega, rfl, by unfold Rc.sn; exact H1⟩
      case round =>
        clear H1
        obtain ⟨k, hk, rfl, H1⟩ := hrel
        by_cases hlt : k < 3
        · have tk : (k : Int) < 3 := by omega
          obtain ⟨x, Hx⟩ : ∃ x, Hd (Cha.wordTo (nonce.drop (4 * k)) 4 = x) := ⟨_, ⟨rfl⟩⟩
          obtain ⟨J, HJ⟩ : ∃ J, Hd (4 * k = J) := ⟨_, ⟨rfl⟩⟩
          obtain ⟨B, HB⟩ : ∃ B, Hd (13 + k = B) := ⟨_, ⟨rfl⟩⟩
          obtain ⟨E, HE⟩ : ∃ E, Hd (J + 4 = E) := ⟨_, ⟨rfl⟩⟩
          obtain ⟨C, HC⟩ : ∃ C, Hd (12 - J = C) := ⟨_, ⟨rfl⟩⟩
          have Hb := hd (show B < 16 ∧ J + 4 ≤ 12 by have := HJ.out; have := HB.out; omega)
          have hnx : Rc.sn key nonce count (k + 1) = (Rc.sn key nonce count k).set B x := by rw [Rc.sn_next, HB.out, Hx.out]
          have Hnx := hd hnx
          clear hnx
          obtain ⟨s, Hs⟩ : ∃ s, Hd (Rc.sn key nonce count k = s) := ⟨_, ⟨rfl⟩⟩
          have Ls := hd (show s.length = 16 by rw [← Hs.out]; exact Rc.sn_len key nonce count k)
          rw [Hs.out] at H1 Hnx
          have hrw := Rc.sub_reads (w := wr) (B := wr.heap.size) (lo := J) H1.bn HN.out H1.bn.lt Hb.out.2
          have Hw := hd (Rc.word_any (some ⟨w.heap.size + 1, J, none⟩) C ((nonce.drop J).take 4) wr hrw)
          rw [Rc.wordTo_take, ← HJ.out, Hx.out, HJ.out] at Hw
          clear hrw
          have c1 := Cha.Blk.cellW H1.bs B (by rw [Ls.out]; exact Hb.out.1)
          have f1 := H1.bs.frozen B
          go_wp2_with (first
            | (with_reducible change wpList _ _ _ (⟨some 39, _, _, _, _, _⟩ :: _) _ _; refine wpl_run (o := ⟨some 39, _, _, _, _, _⟩) (wanted_plain rfl) (.int .i64 ((B : Nat) : Int)) (Reg.addN (by rfl) 13 k B HB.out (by have := Hb.out; omega) (by simp [Act.eval, Act.put]) (by simp [Act.eval, Act.put])) ?_)
            | (with_reducible change wpList _ _ _ (⟨some 41, _, _, _, _, _⟩ :: _) _ _; refine wpl_run (o := ⟨some 41, _, _, _, _, _⟩) (wanted_plain rfl) (.int .i64 ((J : Nat) : Int)) (Rc.mulN (by rfl) 4 k J HJ.out (by have := Hb.out; omega) (by simp [Act.eval, Act.put]) (by simp [Act.eval, Act.put])) ?_)
            | (with_reducible change wpList _ _ _ (⟨some 43, _, _, _, _, _⟩ :: _) _ _; refine wpl_run (o := ⟨some 43, _, _, _, _, _⟩) (wanted_plain rfl) (.int .i64 ((J : Nat) : Int)) (Rc.mulN (by rfl) 4 k J HJ.out (by have := Hb.out; omega) (by simp [Act.eval, Act.put]) (by simp [Act.eval, Act.put])) ?_)
            | (with_reducible change wpList _ _ _ (⟨some 44, _, _, _, _, _⟩ :: _) _ _; refine wpl_run (o := ⟨some 44, _, _, _, _, _⟩) (wanted_plain rfl) (.int .i64 ((E : Nat) : Int)) (Reg.addN (by rfl) J 4 E HE.out (by have := Hb.out; have := HE.out; omega) (by simp [Act.eval, Act.put]) (by simp [Act.eval, Act.put])) ?_)
            | (with_reducible change wpList _ _ _ (⟨some 45, _, _, _, _, _⟩ :: _) _ _; refine wpl_run (o := ⟨some 45, _, _, _, _, _⟩) (wanted_plain rfl) (.slice (some ⟨w.heap.size + 1, J, none⟩) 4 C) (Rc.sliceA (by rfl) Try.underlying25 Reg.sz8 (w.heap.size + 1) J E (by simp [Act.eval, Act.put]) (by simp [Act.eval, Act.put]) (by simp [Act.eval, Act.put]) (by have := HE.out; omega) (by have := Hb.out; have := HE.out; omega) (by have := Hb.out; omega) 4 C (by have := HE.out; omega) HC.out) ?_)
            | (go_at_call 78; refine Hw.out.mono ?_; rintro e W2 ⟨rfl, m1, rfl⟩)
            | (with_reducible change wpList _ _ _ (⟨some 47, _, _, _, _, _⟩ :: _) _ _; refine wpl_run (o := ⟨some 47, _, _, _, _, _⟩) (wanted_plain rfl) (.pointer (some ⟨w.heap.size + 1 + 1 + 1, B, none⟩)) (Reg.idx (by rfl) Try.underlying133 Reg.sz32 (w.heap.size + 1 + 1 + 1) B (by simp [Act.eval, Act.put]) (by simp [Act.eval, Act.put]) Hb.out.1) ?_))
          go_roundw
          case rel => exact ⟨k + 1, by omega, by go_num, by rw [Hnx.out]; first | exact (H1.next (below_drewN (Below.refl _ _) m1)).set_ B x | exact (H1.set_ B x).next (below_drewN (Below.refl _ _) m1)⟩
          case measure => simp [intOf]; omega
        · have ek : k = 3 := by omega
          subst ek
          have tk : ¬ ((3 : Nat) : Int) < 3 := by omega
          rw [Rc.sn_all, Hs0.out] at H1
          obtain ⟨y, Hy⟩ : ∃ y, Hd (wr.heap.size = y) := ⟨_, ⟨rfl⟩⟩
          have hy := H1.bs.lt
          rw [Hy.out] at hy
          go_wp2_with (first
            | (refine wpl_load rfl 133 _ rfl ⟨w.heap.size + 1 + 1 + 1, 0, none⟩ rfl 16 Cha.aggW (s0.map Cha.V) (by rw [List.length_map, L0.out]) H1.bs.cells ?_)
            | (refine wpl_alloc rfl 133 rfl _ Cha.zeroW ?_; rw [Hy.out])
            | (refine wpl_store rfl 133 _ _ rfl y 0 (s0.map Cha.V) rfl rfl 133 _ (Blk.nu Hy.out.symm) (by rw [List.length_map, L0.out]; kernel_rfl) (by rw [List.length_map, L0.out]; decide) (by simp [Cha.V, Value.oneCell']) ?_; rw [splice_all _ _ (by rw [List.length_map, L0.out]; rfl)]; refine wpl_name (Rc.B2 w key nonce s0 y s0) ⟨(H1.next ((Below.refl _ _).alloc (Nat.le_refl _) _)).far hy _, (Blk.nu Hy.out.symm).setRow _⟩ ?_; clear H1; intro W3 H4))
          go_loopw [11] (fun i wr => ∃ k : Nat, k ≤ 10 ∧ i = .int .i64 (k : Int) ∧ Rc.B2 w key nonce s0 y (iter Cha.double k s0) wr) (fun i _ => 10 - (intOf i).toNat)
          case atStart => exact ⟨0, by omega, rfl, H4⟩
          case round =>
            clear H4
            obtain ⟨k, hk, rfl, H4⟩ := hrel
            by_cases hlt : k < 10
            · have tk : (k : Int) < 10 := by omega
              obtain ⟨s, Hs⟩ : ∃ s, Hd (iter Cha.double k s0 = s) := ⟨_, ⟨rfl⟩⟩
              have Ls := hd (show s.length = 16 by rw [← Hs.out, iter_keeps Cha.double List.length Cha.double_len, L0.out])
              rw [Hs.out] at H4
              go_wp2
              go_loopw [12] (fun i wr => ∃ j : Nat, j ≤ 4 ∧ i = .int .i64 (j : Int) ∧ Rc.B2 w key nonce s0 y (iter Cha.col j s) wr) (fun i _ => 4 - (intOf i).toNat)
              case atStart => exact ⟨0, by omega, rfl, H4⟩
              case round =>
                clear H4
                obtain ⟨j, hj, rfl, H4⟩ := hrel
                obtain ⟨t, Ht⟩ : ∃ s', Hd (iter Cha.col j s = s') := ⟨_, ⟨rfl⟩⟩
                have Lt := hd (show t.length = 16 by rw [← Ht.out, iter_keeps Cha.col List.length Cha.col_len, Ls.out])
                rw [Ht.out] at H4
                by_cases hlj : j < 4
                · have tj : (j : Int) < 4 := by omega
                  obtain ⟨a1, w1⟩ : ∃ a : Nat, Hd (4 + j = a) := ⟨_, ⟨rfl⟩⟩
                  obtain ⟨a2, w2⟩ : ∃ a : Nat, Hd (8 + j = a) := ⟨_, ⟨rfl⟩⟩
                  obtain ⟨a3, w3⟩ : ∃ a : Nat, Hd (12 + j = a) := ⟨_, ⟨rfl⟩⟩
                  have Hj := hd (show j < 16 ∧ a1 < 16 ∧ a2 < 16 ∧ a3 < 16 by have := w1.out; have := w2.out; have := w3.out; omega)
                  have Hnx := hd (show iter Cha.col (j + 1) s = Cha.quarter j a1 a2 a3 t by rw [iter, Ht.out, Cha.col, ← w1.out, ← w2.out, ← w3.out, Nat.add_comm j 4, Nat.add_comm j 8, Nat.add_comm j 12])
                  have Hq := hd (Rc.quarter_any t j a1 a2 a3 Hj.out.1 Hj.out.2.1 Hj.out.2.2.1 Hj.out.2.2.2 Lt.out wr)
                  obtain ⟨u, Hu⟩ : ∃ x, Hd (Cha.quarter j a1 a2 a3 t = x) := ⟨_, ⟨rfl⟩⟩
                  have Lu := hd (show u.length = 16 by rw [← Hu.out, Cha.quarter_len, Lt.out])
                  rw [Hu.out] at Hq Hnx
                  go_wp2_with (first
                    | (refine wpl_load rfl 133 _ rfl ⟨w.heap.size + 1 + 1 + 1, 0, none⟩ rfl 16 Cha.aggW (t.map Cha.V) (by rw [List.length_map, Lt.out]) H4.st.bs.cells ?_)
                    | (with_reducible change wpList _ _ _ (⟨some 60, _, _, _, _, _⟩ :: _) _ _; refine wpl_run (o := ⟨some 60, _, _, _, _, _⟩) (wanted_plain rfl) (.int .i64 ((a1 : Nat) : Int)) (Reg.addN (by rfl) 4 j a1 w1.out (by have := Hj.out; omega) (by simp [Act.eval, Act.put]) (by simp [Act.eval, Act.put])) ?_)
                    | (with_reducible change wpList _ _ _ (⟨some 62, _, _, _, _, _⟩ :: _) _ _; refine wpl_run (o := ⟨some 62, _, _, _, _, _⟩) (wanted_plain rfl) (.int .i64 ((a2 : Nat) : Int)) (Reg.addN (by rfl) 8 j a2 w2.out (by have := Hj.out; omega) (by simp [Act.eval, Act.put]) (by simp [Act.eval, Act.put])) ?_)
                    | (with_reducible change wpList _ _ _ (⟨some 64, _, _, _, _, _⟩ :: _) _ _; refine wpl_run (o := ⟨some 64, _, _, _, _, _⟩) (wanted_plain rfl) (.int .i64 ((a3 : Nat) : Int)) (Reg.addN (by rfl) 12 j a3 w3.out (by have := Hj.out; omega) (by simp [Act.eval, Act.put]) (by simp [Act.eval, Act.put])) ?_)
                    | (go_at_call 79; refine Hq.out.mono ?_; rintro e W5 ⟨rfl, hE⟩; have H5 := H4.next hE)
                    | (refine wpl_store rfl 133 _ _ rfl (w.heap.size + 1 + 1 + 1) 0 (u.map Cha.V) rfl rfl 133 _ H5.st.bs (by rw [List.length_map, Lu.out]; kernel_rfl) (by rw [List.length_map, Lu.out, Cha.row_size, Lt.out]; decide) (by simp [Cha.V, Value.oneCell']) ?_; rw [splice_all _ _ (by rw [List.length_map, Lu.out, Cha.row_size, Lt.out])]; refine wpl_name (Rc.B2 w key nonce s0 y u) (H5.put hy u) ?_; clear H5 H4; intro W6 H6))
                  go_roundw
                  case rel => exact ⟨j + 1, by omega, by go_num, by rw [Hnx.out]; exact H6⟩
                  case measure => simp [intOf]; omega
                · have ej : j = 4 := by omega
                  subst ej
                  have tj : ¬ ((4 : Nat) : Int) < 4 := by omega
                  go_wp2
                  go_loopw [13] (fun i wr => ∃ j : Nat, j ≤ 4 ∧ i = .int .i64 (j : Int) ∧ Rc.B2 w key nonce s0 y (iter Cha.diag j t) wr) (fun i _ => 4 - (intOf i).toNat)
                  case atStart => exact ⟨0, by omega, rfl, H4⟩
                  case round =>
                    clear H4
                    obtain ⟨j, hj2, rfl, H4⟩ := hrel
                    obtain ⟨v, Hv⟩ : ∃ s', Hd (iter Cha.diag j t = s') := ⟨_, ⟨rfl⟩⟩
                    have Lv := hd (show v.length = 16 by rw [← Hv.out, iter_keeps Cha.diag List.length Cha.diag_len, Lt.out])
                    rw [Hv.out] at H4
                    by_cases hlj : j < 4
                    · have tj2 : (j : Int) < 4 := by omega
                      obtain ⟨p1, h1⟩ : ∃ a : Nat, Hd (j + 1 = a) := ⟨_, ⟨rfl⟩⟩
                      obtain ⟨p2, h2⟩ : ∃ a : Nat, Hd (j + 2 = a) := ⟨_, ⟨rfl⟩⟩
                      obtain ⟨p3, h3⟩ : ∃ a : Nat, Hd (j + 3 = a) := ⟨_, ⟨rfl⟩⟩
                      obtain ⟨q1, r1⟩ : ∃ a : Nat, Hd (p1 % 4 = a) := ⟨_, ⟨rfl⟩⟩
                      obtain ⟨q2, r2⟩ : ∃ a : Nat, Hd (p2 % 4 = a) := ⟨_, ⟨rfl⟩⟩
                      obtain ⟨q3, r3⟩ : ∃ a : Nat, Hd (p3 % 4 = a) := ⟨_, ⟨rfl⟩⟩
                      have Bq := hd (show p1 ≤ 8 ∧ p2 ≤ 8 ∧ p3 ≤ 8 ∧ q1 < 4 ∧ q2 < 4 ∧ q3 < 4 by have := h1.out; have := h2.out; have := h3.out; have := r1.out; have := r2.out; have := r3.out; omega)
                      obtain ⟨a1, w1⟩ : ∃ a : Nat, Hd (4 + q1 = a) := ⟨_, ⟨rfl⟩⟩
                      obtain ⟨a2, w2⟩ : ∃ a : Nat, Hd (8 + q2 = a) := ⟨_, ⟨rfl⟩⟩
                      obtain ⟨a3, w3⟩ : ∃ a : Nat, Hd (12 + q3 = a) := ⟨_, ⟨rfl⟩⟩
                      have Hj := hd (show j < 16 ∧ a1 < 16 ∧ a2 < 16 ∧ a3 < 16 by have := w1.out; have := w2.out; have := w3.out; have := Bq.out; omega)
                      have Hnx := hd (show iter Cha.diag (j + 1) t = Cha.quarter j a1 a2 a3 v by rw [iter, Hv.out, Cha.diag, ← w1.out, ← w2.out, ← w3.out, ← r1.out, ← r2.out, ← r3.out, ← h1.out, ← h2.out, ← h3.out])
                      have Hq := hd (Rc.quarter_any v j a1 a2 a3 Hj.out.1 Hj.out.2.1 Hj.out.2.2.1 Hj.out.2.2.2 Lv.out wr)
                      obtain ⟨u, Hu⟩ : ∃ x, Hd (Cha.quarter j a1 a2 a3 v = x) := ⟨_, ⟨rfl⟩⟩
                      have Lu := hd (show u.length = 16 by rw [← Hu.out, Cha.quarter_len, Lv.out])
                      rw [Hu.out] at Hq Hnx
                      go_wp2_with (first
                        | (refine wpl_load rfl 133 _ rfl ⟨w.heap.size + 1 + 1 + 1, 0, none⟩ rfl 16 Cha.aggW (v.map Cha.V) (by rw [List.length_map, Lv.out]) H4.st.bs.cells ?_)
                        | (with_reducible change wpList _ _ _ (⟨some 73, _, _, _, _, _⟩ :: _) _ _; refine wpl_run (o := ⟨some 73, _, _, _, _, _⟩) (wanted_plain rfl) (.int .i64 ((p1 : Nat) : Int)) (Reg.addN (by rfl) j 1 p1 h1.out (by have := Bq.out; omega) (by simp [Act.eval, Act.put]) (by simp [Act.eval, Act.put])) ?_)
                        | (with_reducible change wpList _ _ _ (⟨some 74, _, _, _, _, _⟩ :: _) _ _; refine wpl_run (o := ⟨some 74, _, _, _, _, _⟩) (wanted_plain rfl) (.int .i64 ((q1 : Nat) : Int)) (Rc.remN (by rfl) p1 4 q1 (by omega) r1.out (by simp [Act.eval, Act.put]) (by simp [Act.eval, Act.put])) ?_)
                        | (with_reducible change wpList _ _ _ (⟨some 75, _, _, _, _, _⟩ :: _) _ _; refine wpl_run (o := ⟨some 75, _, _, _, _, _⟩) (wanted_plain rfl) (.int .i64 ((a1 : Nat) : Int)) (Reg.addN (by rfl) 4 q1 a1 w1.out (by have := Hj.out; omega) (by simp [Act.eval, Act.put]) (by simp [Act.eval, Act.put])) ?_)
                        | (with_reducible change wpList _ _ _ (⟨some 77, _, _, _, _, _⟩ :: _) _ _; refine wpl_run (o := ⟨some 77, _, _, _, _, _⟩) (wanted_plain rfl) (.int .i64 ((p2 : Nat) : Int)) (Reg.addN (by rfl) j 2 p2 h2.out (by have := Bq.out; omega) (by simp [Act.eval, Act.put]) (by simp [Act.eval, Act.put])) ?_)
                        | (with_reducible change wpList _ _ _ (⟨some 78, _, _, _, _, _⟩ :: _) _ _; refine wpl_run (o := ⟨some 78, _, _, _, _, _⟩) (wanted_plain rfl) (.int .i64 ((q2 : Nat) : Int)) (Rc.remN (by rfl) p2 4 q2 (by omega) r2.out (by simp [Act.eval, Act.put]) (by simp [Act.eval, Act.put])) ?_)
                        | (with_reducible change wpList _ _ _ (⟨some 79, _, _, _, _, _⟩ :: _) _ _; refine wpl_run (o := ⟨some 79, _, _, _, _, _⟩) (wanted_plain rfl) (.int .i64 ((a2 : Nat) : Int)) (Reg.addN (by rfl) 8 q2 a2 w2.out (by have := Hj.out; omega) (by simp [Act.eval, Act.put]) (by simp [Act.eval, Act.put])) ?_)
                        | (with_reducible change wpList _ _ _ (⟨some 81, _, _, _, _, _⟩ :: _) _ _; refine wpl_run (o := ⟨some 81, _, _, _, _, _⟩) (wanted_plain rfl) (.int .i64 ((p3 : Nat) : Int)) (Reg.addN (by rfl) j 3 p3 h3.out (by have := Bq.out; omega) (by simp [Act.eval, Act.put]) (by simp [Act.eval, Act.put])) ?_)
                        | (with_reducible change wpList _ _ _ (⟨some 82, _, _, _, _, _⟩ :: _) _ _; refine wpl_run (o := ⟨some 82, _, _, _, _, _⟩) (wanted_plain rfl) (.int .i64 ((q3 : Nat) : Int)) (Rc.remN (by rfl) p3 4 q3 (by omega) r3.out (by simp [Act.eval, Act.put]) (by simp [Act.eval, Act.put])) ?_)
                        | (with_reducible change wpList _ _ _ (⟨some 83, _, _, _, _, _⟩ :: _) _ _; refine wpl_run (o := ⟨some 83, _, _, _, _, _⟩) (wanted_plain rfl) (.int .i64 ((a3 : Nat) : Int)) (Reg.addN (by rfl) 12 q3 a3 w3.out (by have := Hj.out; omega) (by simp [Act.eval, Act.put]) (by simp [Act.eval, Act.put])) ?_)
                        | (go_at_call 79; refine Hq.out.mono ?_; rintro e W5 ⟨rfl, hE⟩; have H5 := H4.next hE)
                        | (refine wpl_store rfl 133 _ _ rfl (w.heap.size + 1 + 1 + 1) 0 (u.map Cha.V) rfl rfl 133 _ H5.st.bs (by rw [List.length_map, Lu.out]; kernel_rfl) (by rw [List.length_map, Lu.out, Cha.row_size, Lv.out]; decide) (by simp [Cha.V, Value.oneCell']) ?_; rw [splice_all _ _ (by rw [List.length_map, Lu.out, Cha.row_size, Lv.out])]; refine wpl_name (Rc.B2 w key nonce s0 y u) (H5.put hy u) ?_; clear H5 H4; intro W6 H6))
                      go_roundw
                      case rel => exact ⟨j + 1, by omega, by go_num, by rw [Hnx.out]; exact H6⟩
                      case measure => simp [intOf]; omega
                    · have ej : j = 4 := by omega
                      subst ej
                      have tj2 : ¬ ((4 : Nat) : Int) < 4 := by omega
                      have Hnx := hd (show iter Cha.double (k + 1) s0 = v by rw [iter, Hs.out, Cha.double, Ht.out, Hv.out])
                      go_wp2
                      go_roundw
                      case rel => exact ⟨k + 1, by omega, by go_num, by rw [Hnx.out]; exact H4⟩
                      case measure => simp [intOf]; omega
            · have ek : k = 10 := by omega
              subst ek
              have tk : ¬ ((10 : Nat) : Int) < 10 := by omega
              obtain ⟨s, Hs⟩ : ∃ s, Hd (iter Cha.double 10 s0 = s) := ⟨_, ⟨rfl⟩⟩
              have Ls := hd (show s.length = 16 by rw [← Hs.out, iter_keeps Cha.double List.length Cha.double_len, L0.out])
              rw [Hs.out] at H4
              obtain ⟨z, Hz⟩ : ∃ z, Hd (wr.heap.size = z) := ⟨_, ⟨rfl⟩⟩
              have hyz := H4.bw.lt
              rw [Hz.out] at hyz
              go_wp2_with (refine wpl_alloc rfl 111 rfl _ Cha.zero64 ?_; rw [Hz.out]; refine wpl_name (fun W => Rc.B2 w key nonce s0 y s W ∧ Blk W z 111 (arr (List.replicate 64 0))) ⟨H4.next ((Below.refl _ _).alloc (Nat.le_refl _) _), Blk.nu Hz.out.symm⟩ ?_; clear H4; rintro W6 ⟨H6, bo6⟩)
              go_loopw [15] (fun i wr => ∃ j : Nat, j ≤ 64 ∧ i = .int .i64 (j : Int) ∧ Rc.B2 w key nonce s0 y s wr ∧ Blk wr z 111 (arr (Cha.endTo s0 s j))) (fun i _ => 64 - (intOf i).toNat)
              case atStart => exact ⟨0, by omega, rfl, H6, by rw [Cha.endTo_none]; exact bo6⟩
              case round =>
                clear H6 bo6
                obtain ⟨j, hj, rfl, H6, bo6⟩ := hrel
                by_cases hlj : j < 64
                · have tj : (j : Int) < 64 := by omega
                  obtain ⟨q, Hq⟩ : ∃ q, Hd (j / 4 = q) := ⟨_, ⟨rfl⟩⟩
                  obtain ⟨m, Hm⟩ : ∃ m, Hd (j % 4 = m) := ⟨_, ⟨rfl⟩⟩
                  have eq_ : (j : Int) / 4 = (q : Int) := by have := Hq.out; omega
                  have em : (j : Int) % 4 = (m : Int) := by have := Hm.out; omega
                  have Bq : q < 16 := by have := Hq.out; omega
                  have Bm : m < 4 := by have := Hm.out; omega
                  have tq : (q : Int) < 16 := by omega
                  obtain ⟨E, HE⟩ : ∃ E, Hd (8 * m = E) := ⟨_, ⟨rfl⟩⟩
                  have eE : (8 : Int) * (m : Int) = (E : Int) := by have := HE.out; omega
                  have wE : IntKind.i64.wrap (E : Int) = (E : Int) := IntWalk.i64_in _ (by have := HE.out; omega)
                  have Hnx := hd (show Cha.endTo s0 s (j + 1) = (Cha.endTo s0 s j).set j (shr32 (Cha.at_ s q + Cha.at_ s0 q) E).toUInt8 by rw [← Cha.endTo_next, Hq.out, Hm.out, HE.out])
                  have c1 := Cha.Blk.cellW H6.st.bs q (by rw [Ls.out]; exact Bq)
                  have c2 := Cha.Blk.cellW H6.bw q (by rw [L0.out]; exact Bq)
                  have c3 := bo6.arr_cell j (by rw [Cha.endTo_len]; exact hlj)
                  have f3 := bo6.frozen j
                  go_wp2
                  go_quiet (fail)
                  go_wp2
                  go_roundw
                  case rel => exact ⟨j + 1, by omega, by go_num, (by have h9 := H6.next (below_drewN (Below.refl _ _) nq); exact ⟨h9.st.far2 (by omega) _ _, h9.bw.far (by simp only []; omega) _⟩), by rw [Hnx.out]; first | exact (bo6.drewN _).arr_set _ _ | exact (bo6.arr_set _ _).drewN _⟩
                  case measure => simp [intOf]; omega
                · have ej : j = 64 := by omega
                  subst ej
                  have tj : ¬ ((64 : Nat) : Int) < 64 := by omega
                  obtain ⟨r, Hr⟩ : ∃ r, Hd (Cha.endTo s0 s 64 = r) := ⟨_, ⟨rfl⟩⟩
                  have Lr := hd (show r.length = 64 by rw [← Hr.out, Cha.endTo_len])
                  have Hfin := hd (show Cha.ended s0 (Cha.rounds s0) = r by rw [← Hr.out, Cha.endTo_all, ← Hs.out]; rfl)
                  rw [Hr.out] at bo6
                  go_wp2_with (first | (refine wpl_load_arr rfl 111 _ rfl _ rfl 64 Cha.agg64 r Lr.out bo6.cells_arr ?_) | (refine wpl_store_arr rfl 111 _ _ rfl (w.heap.size + 1 + 1) r rfl rfl 111 _ H6.st.bo 64 Cha.agg64.size Lr.out (by rw [arr_size, List.length_replicate]) ?_))
                  rw [Hfin.out]
                  exact ret_arr rfl (w.heap.size + 1 + 1) rfl Cha.agg64 r Lr.out (H6.st.bo.setRow _).cells_arr rfl ⟨rfl, below_setRow H6.st.old (by omega) _⟩
end Go.Proofs.Ytbcboldepghgpaa

namespace Go.Proofs.Ytbcboldepghgpaa
open Go.RowKit
namespace Cha
def V64 (x : UInt64) : Value := .int .u64 ((n64 x : Nat) : Int)
def row64 (l : List UInt64) : Array Value := (l.map V64).toArray
theorem row64_get (l : List UInt64) (i : Nat) (hi : i < l.length) : (row64 l)[i]? = some (V64 (at64 l i)) := by
  simp [row64, at64, List.getElem?_eq_getElem hi, List.getD_eq_getElem?_getD]
theorem row64_set (l : List UInt64) (i : Nat) (x : UInt64) : (row64 l).setIfInBounds i (V64 x) = row64 (l.set i x) := by
  simp [row64, List.map_set]
theorem row64_size (l : List UInt64) : (row64 l).size = l.length := by simp [row64]
theorem Blk.cell64 {w : World} {g : Nat} {t : TypeId} {l : List UInt64} (h : Blk w g t (row64 l)) (i : Nat) (hi : i < l.length) : w.cell? ⟨g, i, none⟩ = some (.int .u64 ((n64 (at64 l i) : Nat) : Int)) := by rw [h.cell, row64_get l i hi]; rfl
theorem Blk.set64 {w : World} {g : Nat} {t : TypeId} {l : List UInt64} (h : Blk w g t (row64 l)) (i : Nat) (x : UInt64) : Blk (w.setCell ⟨g, i, none⟩ (.int .u64 ((n64 x : Nat) : Int))) g t (row64 (l.set i x)) := by
  have e := row64_set l i x
  unfold V64 at e
  rw [← e]; exact h.set_ i _
theorem zero18 : (Try.prog.info? 146).bind (·.zero) = some (.agg (row64 (List.replicate 18 0))) := by kernel_rfl
theorem zero9 : (Try.prog.info? 137).bind (·.zero) = some (.agg (row64 (List.replicate 9 0))) := by kernel_rfl
theorem zero8 : (Try.prog.info? 136).bind (·.zero) = some (.agg (row64 (List.replicate 8 0))) := by kernel_rfl
theorem agg18 : AggT Try.prog 146 18 := ⟨by kernel_rfl, by kernel_rfl⟩
theorem agg9 : AggT Try.prog 137 9 := ⟨by kernel_rfl, by kernel_rfl⟩
theorem agg8 : AggT Try.prog 136 8 := ⟨by kernel_rfl, by kernel_rfl⟩
end Cha
namespace Reg
theorem shr_16 (x : UInt64) : shr64 x 16 = x >>> 16 := by
  apply UInt64.toNat_inj.1
  rw [UInt64.toNat_shiftRight]
  have := x.toNat_lt
  unfold shr64
  simp [Nat.shiftRight_eq_div_pow]
  omega
section
variable {P : Program} {w : World} {o : Oper} {ρ : Operand → Value} {x y : Operand} {t rt e : TypeId}
theorem shr16 (ho : o.op = .binOp .shr t x y rt) (i : UInt64) (hx : ρ x = .int .u64 ((n64 i : Nat) : Int)) (hy : ρ y = .int .u64 16) : (execOp ρ o).run P w = .ok (.value (.int .u64 ((n64 (shr64 i 16) : Nat) : Int))) w := by
  rw [shr_16]
  unfold execOp
  simp only [ho, hx, hy]
  simp [go_sem]
end
end Reg
set_option maxHeartbeats 8000000 in
set_option maxRecDepth 100000 in
theorem Rc.carried_any (B : Nat) (p : List UInt64) (hl : p.length = 18) (hB : B ≤ 4611686018427387904) (hb : ∀ j, (Cha.at64 p j).toNat ≤ B) (w : World) :
    Calls Try.prog 94 #[.agg (Cha.row64 p)] w fun e w' => ∃ q, e = .returned (.agg (Cha.row64 q)) ∧ Cha.Carried B q ∧ Cha.dval q = Cha.dval p ∧ Below w.heap.size w w' := by
  have hI := Cha.CInv.start p hl hb
  have HB := hd hB
  clear hl hb hB
  go_enter Try.func94, Try.ntmps94
  go_wp2_with (first
    | (refine wpl_alloc rfl 146 rfl _ Cha.zero18 ?_; simp only [World.size_alloc]; refine wpl_name (fun W => Blk W w.heap.size 146 (Cha.row64 p) ∧ Blk W (w.heap.size + 1) 146 (Cha.row64 (List.replicate 18 0)) ∧ Below w.heap.size w W) ⟨(Blk.nu rfl).alloc _, Blk.nu (by simp), ((Below.refl _ _).alloc (by simp) _).alloc (by simp) _⟩ ?_; rintro W1 ⟨H1, H2, H3⟩))
  go_loopw [3] (fun i wr => ∃ (k : Nat) (q : List UInt64), k ≤ 17 ∧ i = .int .i64 (k : Int) ∧ Cha.CInv B p k q ∧ Blk wr w.heap.size 146 (Cha.row64 q) ∧ Blk wr (w.heap.size + 1) 146 (Cha.row64 (List.replicate 18 0)) ∧ Below w.heap.size w wr) (fun i _ => 17 - (intOf i).toNat)
  case atStart => exact ⟨0, p, by omega, rfl, hI, H1, H2, H3⟩
  case round =>
    clear hI H1 H2 H3
    obtain ⟨k, q, hk, rfl, hI, H1, H2, H3⟩ := hrel
    have Lq := hd hI.len
    by_cases hlt : k < 17
    · have tk : (k : Int) < 17 := by omega
      obtain ⟨E, HE⟩ : ∃ E, Hd (k + 1 = E) := ⟨_, ⟨rfl⟩⟩
      have HE18 := hd (show E < 18 ∧ k < 18 by have := HE.out; omega)
      have hst := hI.step HB.out hlt
      unfold Cha.cstep at hst
      rw [HE.out] at hst
      obtain ⟨q1, Hq1⟩ : ∃ x, Hd (q.set E (Cha.at64 q E + shr64 (Cha.at64 q k) 16) = x) := ⟨_, ⟨rfl⟩⟩
      rw [Hq1.out] at hst
      have Lq1 := hd (show q1.length = 18 by rw [← Hq1.out, List.length_set, Lq.out])
      have eqk : Cha.at64 q1 k = Cha.at64 q k := by rw [← Hq1.out, Cha.at64_set _ _ _ _ (by rw [Lq.out]; exact HE18.out.1), if_neg (by have := HE.out; omega)]
      have Hst := hd hst
      have HI := hd hI
      clear hst hI
      go_wp2
      refine x_start 12 (fun W => Blk W w.heap.size 146 (Cha.row64 q) ∧ Blk W (w.heap.size + 1) 146 (Cha.row64 (List.replicate 18 0)) ∧ Below w.heap.size w W) (by kernel_rfl) (⟨H1.drew, H2.drew, H3.drew⟩) ?_
      refine Reg.xt (v := .int .i64 ((k : Nat) : Int)) 0 (fun W hW => run_move (by rfl) (by simp [Act.eval]) W) (by kernel_rfl) rfl rfl (fun _ _ _ h => h) ?_
      simp only [PS]
      refine Reg.xt 1 (fun W hW => Reg.addN (by rfl) k 1 E HE.out (by have := HE18.out; omega) (by simp [Act.eval]) (by simp [Act.eval])) (by kernel_rfl) rfl rfl (fun _ _ _ h => h) ?_
      simp only [PS]
      refine Reg.xt (v := .int .i64 ((k : Nat) : Int)) 2 (fun W hW => run_move (by rfl) (by simp [Act.eval]) W) (by kernel_rfl) rfl rfl (fun _ _ _ h => h) ?_
      simp only [PS]
      refine Reg.xt 3 (fun W hW => Reg.addN (by rfl) k 1 E HE.out (by have := HE18.out; omega) (by simp [Act.eval]) (by simp [Act.eval])) (by kernel_rfl) rfl rfl (fun _ _ _ h => h) ?_
      simp only [PS]
      refine Reg.xt 4 (fun W hW => Reg.idx (by rfl) Try.underlying146 Reg.sz64 (w.heap.size) (E) (by simp [Act.eval]) (by simp [Act.eval]) HE18.out.1) (by kernel_rfl) rfl rfl (fun _ _ _ h => h) ?_
      simp only [PS]
      refine Reg.xt (v := .int .u64 ((n64 (Cha.at64 q E) : Nat) : Int)) 5 (fun W hW => Reg.ld Reg.na64 (by rfl) ⟨w.heap.size, E, none⟩ _ (by simp [Act.eval]) (Cha.Blk.cell64 hW.1 E (by rw [Lq.out]; exact HE18.out.1))) (by kernel_rfl) rfl rfl (fun _ _ _ h => h) ?_
      simp only [PS]
      refine Reg.xt (v := .int .i64 ((k : Nat) : Int)) 6 (fun W hW => run_move (by rfl) (by simp [Act.eval]) W) (by kernel_rfl) rfl rfl (fun _ _ _ h => h) ?_
      simp only [PS]
      refine Reg.xt 7 (fun W hW => Reg.idx (by rfl) Try.underlying146 Reg.sz64 (w.heap.size) (k) (by simp [Act.eval]) (by simp [Act.eval]) HE18.out.2) (by kernel_rfl) rfl rfl (fun _ _ _ h => h) ?_
      simp only [PS]
      refine Reg.xt (v := .int .u64 ((n64 (Cha.at64 q k) : Nat) : Int)) 8 (fun W hW => Reg.ld Reg.na64 (by rfl) ⟨w.heap.size, k, none⟩ _ (by simp [Act.eval]) (Cha.Blk.cell64 hW.1 k (by rw [Lq.out]; exact HE18.out.2))) (by kernel_rfl) rfl rfl (fun _ _ _ h => h) ?_
      simp only [PS]
      refine Reg.xt (v := .int .u64 ((n64 (shr64 (Cha.at64 q k) 16) : Nat) : Int)) 9 (fun W hW => Reg.shr16 (by rfl) _ (by simp [Act.eval]) (by simp [Act.eval])) (by kernel_rfl) rfl rfl (fun _ _ _ h => h) ?_
      simp only [PS]
      refine Reg.xt (v := .int .u64 ((n64 (Cha.at64 q E + shr64 (Cha.at64 q k) 16) : Nat) : Int)) 10 (fun W hW => Reg.add64 (by rfl) _ _ (by simp [Act.eval]) (by simp [Act.eval])) (by kernel_rfl) rfl rfl (fun _ _ _ h => h) ?_
      simp only [PS]
      refine Reg.xt 11 (fun W hW => Reg.idx (by rfl) Try.underlying146 Reg.sz64 (w.heap.size) (E) (by simp [Act.eval]) (by simp [Act.eval]) HE18.out.1) (by kernel_rfl) rfl rfl (fun _ _ _ h => h) ?_
      simp only [PS]
      refine x_last (by kernel_rfl) (by kernel_rfl) (fun W hW _ => ?_) _
      refine op_skip (o := _) rfl (wanted_plain rfl) _ (Reg.st_ Reg.na64 Reg.sz64 (by rfl) ⟨w.heap.size, E, none⟩ .u64 ((n64 (Cha.at64 q E + shr64 (Cha.at64 q k) 16) : Nat) : Int) _ (by simp [Act.eval]) (by simp [Act.eval]) (Cha.Blk.cell64 hW.1 E (by rw [Lq.out]; exact HE18.out.1)) (hW.1.frozen E)) ?_
      simp only [PS]
      have H4 := Cha.Blk.set64 hW.1 E (Cha.at64 q E + shr64 (Cha.at64 q k) 16)
      rw [Hq1.out] at H4
      have H5 := hW.2.1.far (p := ⟨w.heap.size, E, none⟩) (by simp) (.int .u64 ((n64 (Cha.at64 q E + shr64 (Cha.at64 q k) 16) : Nat) : Int))
      have H6 := hW.2.2.setCell (p := ⟨w.heap.size, E, none⟩) (Nat.le_refl _) (.int .u64 ((n64 (Cha.at64 q E + shr64 (Cha.at64 q k) 16) : Nat) : Int))
      clear H1 H2 H3 hW
      obtain ⟨W4, HW4⟩ : ∃ x, Hd (W.setCell ⟨w.heap.size, E, none⟩ (.int .u64 ((n64 (Cha.at64 q E + shr64 (Cha.at64 q k) 16) : Nat) : Int)) = x) := ⟨_, ⟨rfl⟩⟩
      rw [HW4.out] at H4 H5 H6 ⊢
      have tk18 : (k : Int) < 18 := by omega
      have c1 := Cha.Blk.cell64 H4 k (by rw [Lq1.out]; exact HE18.out.2)
      rw [eqk] at c1
      have f1 := H4.frozen k
      have w1 : IntKind.i64.wrap ((k : Int) + 1) = (k : Int) + 1 := IntWalk.i64_in _ (by omega)
      go_wp2
      go_roundw
      case rel => exact ⟨E, _, by have := HE18.out; have := HE.out; omega, by have := HE.out; congr 1 <;> omega, Hst.out, Cha.Blk.set64 H4 k _, H5.far (by simp) _, H6.setCell (Nat.le_refl _) _⟩
      case measure => simp [intOf]; omega
    · have ek : k = 17 := by omega
      subst ek
      have tk : ¬ ((17 : Nat) : Int) < 17 := by omega
      have hfin := hd hI.done
      clear hI
      go_wp2_with (first
        | (refine wpl_load rfl 146 _ rfl ⟨w.heap.size, 0, none⟩ rfl 18 Cha.agg18 (q.map Cha.V64) (by rw [List.length_map, Lq.out]) H1.cells ?_)
        | (refine wpl_store rfl 146 _ _ rfl (w.heap.size + 1) 0 (q.map Cha.V64) rfl rfl 146 _ H2 (by rw [List.length_map, Lq.out]; kernel_rfl) (by rw [List.length_map, Lq.out]; decide) (by simp [Cha.V64, Value.oneCell']) ?_; rw [splice_all _ _ (by rw [List.length_map, Lq.out]; rfl)]))
      exact Rc.ret_vals rfl (w.heap.size + 1) rfl Cha.agg18 (q.map Cha.V64) (by rw [List.length_map, Lq.out]) (H2.setRow _).cells rfl ⟨q, rfl, hfin.out.1, hfin.out.2, below_setRow H3 (by omega) _⟩
end Go.Proofs.Ytbcboldepghgpaa

namespace Go.Proofs.Ytbcboldepghgpaa
open Go.RowKit
namespace Reg
theorem shr_2 (x : UInt64) : shr64 x 2 = x >>> 2 := by
  apply UInt64.toNat_inj.1
  rw [UInt64.toNat_shiftRight]
  have := x.toNat_lt
  unfold shr64
  simp [Nat.shiftRight_eq_div_pow]
  omega
theorem shl_14 (x : UInt64) : shl64 x 14 = x <<< 14 := by
  apply UInt64.toNat_inj.1
  rw [UInt64.toNat_shiftLeft]
  unfold shl64
  simp [Nat.shiftLeft_eq]
section
variable {P : Program} {w : World} {o : Oper} {ρ : Operand → Value} {x y : Operand} {t rt e : TypeId}
theorem shr2 (ho : o.op = .binOp .shr t x y rt) (i : UInt64) (hx : ρ x = .int .u64 ((n64 i : Nat) : Int)) (hy : ρ y = .int .u64 2) : (execOp ρ o).run P w = .ok (.value (.int .u64 ((n64 (shr64 i 2) : Nat) : Int))) w := by
  rw [shr_2]
  unfold execOp
  simp only [ho, hx, hy]
  simp [go_sem]
theorem shl14 (ho : o.op = .binOp .shl t x y rt) (i : UInt64) (hx : ρ x = .int .u64 ((n64 i : Nat) : Int)) (hy : ρ y = .int .u64 14) : (execOp ρ o).run P w = .ok (.value (.int .u64 ((n64 (shl64 i 14) : Nat) : Int))) w := by
  rw [shl_14]
  unfold execOp
  simp only [ho, hx, hy]
  simp [go_sem]
theorem and16 (ho : o.op = .binOp .and t x y rt) (i : UInt64) (hx : ρ x = .int .u64 ((n64 i : Nat) : Int)) (hy : ρ y = .int .u64 65535) : (execOp ρ o).run P w = .ok (.value (.int .u64 ((n64 (i &&& 65535) : Nat) : Int))) w := by
  unfold execOp
  simp only [ho, hx, hy]
  simp [go_sem]
theorem or64 (ho : o.op = .binOp .or t x y rt) (i j : UInt64) (hx : ρ x = .int .u64 ((n64 i : Nat) : Int)) (hy : ρ y = .int .u64 ((n64 j : Nat) : Int)) : (execOp ρ o).run P w = .ok (.value (.int .u64 ((n64 (i ||| j) : Nat) : Int))) w := by
  unfold execOp
  simp only [ho, hx, hy]
  simp [go_sem]
theorem mul5 (ho : o.op = .binOp .mul t x y rt) (j : UInt64) (hx : ρ x = .int .u64 5) (hy : ρ y = .int .u64 ((n64 j : Nat) : Int)) : (execOp ρ o).run P w = .ok (.value (.int .u64 ((n64 (5 * j) : Nat) : Int))) w := by
  unfold execOp
  simp only [ho, hx, hy]
  simp [go_sem]
theorem subN (ho : o.op = .binOp .sub t x y rt) (i j k : Nat) (hk : k + j = i) (hk2 : i ≤ 1000000) (hx : ρ x = .int .i64 (i : Int)) (hy : ρ y = .int .i64 (j : Int)) : (execOp ρ o).run P w = .ok (.value (.int .i64 (k : Int))) w := by
  have e : IntKind.i64.wrap ((i : Int) - (j : Int)) = (k : Int) := by
    rw [show (i : Int) - (j : Int) = (k : Int) by omega]
    exact IntWalk.i64_in _ (by omega)
  unfold execOp
  simp only [ho, hx, hy]
  simp [go_sem, e]
end
end Reg
structure Rc.Pd (w : World) (a r p : List UInt64) (W : World) : Prop where
  ba : Blk W (w.heap.size) 137 (Cha.row64 a)
  br : Blk W (w.heap.size + 1) 136 (Cha.row64 r)
  bo : Blk W (w.heap.size + 1 + 1) 137 (Cha.row64 (List.replicate 9 0))
  bp : Blk W (w.heap.size + 1 + 1 + 1) 146 (Cha.row64 p)
  old : Below w.heap.size w W
section
variable {w W W' : World} {a r p : List UInt64}
theorem Rc.Pd.next (h : Rc.Pd w a r p W) (hb : Below W.heap.size W W') : Rc.Pd w a r p W' := ⟨h.ba.below hb h.ba.lt, h.br.below hb h.br.lt, h.bo.below hb h.bo.lt, h.bp.below hb h.bp.lt, h.old.trans (hb.mono h.old.size)⟩
theorem Rc.Pd.set_ (h : Rc.Pd w a r p W) (i : Nat) (x : UInt64) : Rc.Pd w a r (p.set i x) (W.setCell ⟨w.heap.size + 1 + 1 + 1, i, none⟩ (.int .u64 ((n64 (x) : Nat) : Int))) :=
  ⟨h.ba.far (by simp only []; omega) _, h.br.far (by simp only []; omega) _, h.bo.far (by simp only []; omega) _, Cha.Blk.set64 h.bp i x, h.old.setCell (by simp only []; omega) _⟩
theorem Rc.Pd.far (h : Rc.Pd w a r p W) {z : Nat} (hz : w.heap.size + 1 + 1 + 1 < z) (i : Nat) (u : Value) : Rc.Pd w a r p (W.setCell ⟨z, i, none⟩ u) :=
  ⟨h.ba.far (by simp only []; omega) _, h.br.far (by simp only []; omega) _, h.bo.far (by simp only []; omega) _, h.bp.far (by simp only []; omega) _, h.old.setCell (by simp only []; omega) _⟩
theorem Rc.Pd.put (h : Rc.Pd w a r p W) (p' : List UInt64) : Rc.Pd w a r p' (W.setRow (w.heap.size + 1 + 1 + 1) (Cha.row64 p')) :=
  ⟨h.ba.farRow (by omega) _, h.br.farRow (by omega) _, h.bo.farRow (by omega) _, h.bp.setRow _, below_setRow h.old (by omega) _⟩
end
theorem Rc.enter_carried (args : Array Value) (w : World) : (callFunc 94 args).run Try.prog w = .ok (.enter 94 args) w := by kernel_rfl
set_option maxHeartbeats 16000000 in
set_option maxRecDepth 100000 in
theorem Rc.product_any (a r : List UInt64) (ha : a.length = 9) (hr : r.length = 8) (la : ∀ i, (Cha.at64 a i).toNat ≤ 262144) (lr : ∀ i, (Cha.at64 r i).toNat ≤ 65536) (hX : Cha.dval a * Cha.dval r < 2 ^ 260) (w : World) :
    Calls Try.prog 80 #[.agg (Cha.row64 a), .agg (Cha.row64 r)] w fun e w' => ∃ q, e = .returned (.agg (Cha.row64 q)) ∧ Cha.Nine q (Cha.foldT 2 (Cha.dval a * Cha.dval r)) ∧ Below w.heap.size w w' := by
  have LA := hd ha
  have LR := hd hr
  have HLa := hd la
  have HLr := hd lr
  obtain ⟨X, HX⟩ : ∃ X, Hd (Cha.dval a * Cha.dval r = X) := ⟨_, ⟨rfl⟩⟩
  rw [HX.out] at hX ⊢
  have HX2 := hd hX
  clear ha hr la lr hX
  have hI0 := hd (Cha.PInv.start a r)
  go_enter Try.func80, Try.ntmps80
  go_wp2_with (first
    | (refine wpl_alloc rfl 137 rfl _ Cha.zero9 ?_)
    | (refine wpl_alloc rfl 146 rfl _ Cha.zero18 ?_; simp only [World.size_alloc]; refine wpl_name (Rc.Pd w a r (List.replicate 18 0)) ⟨(((Blk.nu rfl).alloc _).alloc _).alloc _, ((Blk.nu (by simp)).alloc _).alloc _, (Blk.nu (by simp)).alloc _, Blk.nu (by simp), ((((Below.refl _ _).alloc (by simp) _).alloc (by simp) _).alloc (by simp <;> omega) _).alloc (by simp <;> omega) _⟩ ?_; intro W1 H1))
  go_loopw [6] (fun i wr => ∃ (k : Nat) (p : List UInt64), k ≤ 9 ∧ i = .int .i64 ((k : Nat) : Int) ∧ Hd (Cha.PInv a r k 0 p) ∧ Rc.Pd w a r p wr) (fun i _ => 9 - (intOf i).toNat)
  case atStart => exact ⟨0, _, by omega, rfl, hI0, H1⟩
  case round =>
    clear hI0 H1
    obtain ⟨i, p, hi, rfl, HI, H1⟩ := hrel
    by_cases hlt : i < 9
    · have ti : (i : Int) < 9 := by omega
      go_wp2
      go_loopw [7] (fun j wr => ∃ (k : Nat) (p : List UInt64), k ≤ 8 ∧ j = .int .i64 ((k : Nat) : Int) ∧ Hd (Cha.PInv a r i k p) ∧ Rc.Pd w a r p wr) (fun j _ => 8 - (intOf j).toNat)
      case atStart => exact ⟨0, p, by omega, rfl, HI, H1⟩
      case round =>
        clear HI H1
        obtain ⟨k, p, hk, rfl, HI, H1⟩ := hrel
        by_cases hlk : k < 8
        · have tk : (k : Int) < 8 := by omega
          obtain ⟨E, HE⟩ : ∃ E, Hd (i + k = E) := ⟨_, ⟨rfl⟩⟩
          have HE18 := hd (show E < 18 ∧ k < 8 ∧ i < 9 by have := HE.out; omega)
          have Lp := hd HI.out.len
          have HI2 := hd (by have h := HI.out.step hlt hlk LR.out (HLa.out i) (HLr.out k); rw [HE.out] at h; exact h)
          go_wp2
          refine x_start 17 (Rc.Pd w a r p) (by kernel_rfl) (H1.next (Below.refl _ _).drew) ?_
          refine Reg.xt (v := .int .i64 ((i : Nat) : Int)) 0 (fun W hW => run_move (by rfl) (by simp [Act.eval]) W) (by kernel_rfl) rfl rfl (fun _ _ _ h => h) ?_
          simp only [PS]
          refine Reg.xt (v := .int .i64 ((k : Nat) : Int)) 1 (fun W hW => run_move (by rfl) (by simp [Act.eval]) W) (by kernel_rfl) rfl rfl (fun _ _ _ h => h) ?_
          simp only [PS]
          refine Reg.xt 2 (fun W hW => Reg.addN (by rfl) i k E HE.out (by have := HE18.out; omega) (by simp [Act.eval]) (by simp [Act.eval])) (by kernel_rfl) rfl rfl (fun _ _ _ h => h) ?_
          simp only [PS]
          refine Reg.xt (v := .int .i64 ((i : Nat) : Int)) 3 (fun W hW => run_move (by rfl) (by simp [Act.eval]) W) (by kernel_rfl) rfl rfl (fun _ _ _ h => h) ?_
          simp only [PS]
          refine Reg.xt (v := .int .i64 ((k : Nat) : Int)) 4 (fun W hW => run_move (by rfl) (by simp [Act.eval]) W) (by kernel_rfl) rfl rfl (fun _ _ _ h => h) ?_
          simp only [PS]
          refine Reg.xt 5 (fun W hW => Reg.addN (by rfl) i k E HE.out (by have := HE18.out; omega) (by simp [Act.eval]) (by simp [Act.eval])) (by kernel_rfl) rfl rfl (fun _ _ _ h => h) ?_
          simp only [PS]
          refine Reg.xt 6 (fun W hW => Reg.idx (by rfl) Try.underlying146 Reg.sz64 (w.heap.size + 1 + 1 + 1) (E) (by simp [Act.eval]) (by simp [Act.eval]) HE18.out.1) (by kernel_rfl) rfl rfl (fun _ _ _ h => h) ?_
          simp only [PS]
          refine Reg.xt (v := .int .u64 ((n64 (Cha.at64 p E) : Nat) : Int)) 7 (fun W hW => Reg.ld Reg.na64 (by rfl) ⟨w.heap.size + 1 + 1 + 1, E, none⟩ _ (by simp [Act.eval]) (Cha.Blk.cell64 hW.bp E (by rw [Lp.out]; exact HE18.out.1))) (by kernel_rfl) rfl rfl (fun _ _ _ h => h) ?_
          simp only [PS]
          refine Reg.xt (v := .int .i64 ((i : Nat) : Int)) 8 (fun W hW => run_move (by rfl) (by simp [Act.eval]) W) (by kernel_rfl) rfl rfl (fun _ _ _ h => h) ?_
          simp only [PS]
          refine Reg.xt 9 (fun W hW => Reg.idx (by rfl) Try.underlying137 Reg.sz64 (w.heap.size) (i) (by simp [Act.eval]) (by simp [Act.eval]) HE18.out.2.2) (by kernel_rfl) rfl rfl (fun _ _ _ h => h) ?_
          simp only [PS]
          refine Reg.xt (v := .int .u64 ((n64 (Cha.at64 a i) : Nat) : Int)) 10 (fun W hW => Reg.ld Reg.na64 (by rfl) ⟨w.heap.size, i, none⟩ _ (by simp [Act.eval]) (Cha.Blk.cell64 hW.ba i (by rw [LA.out]; exact HE18.out.2.2))) (by kernel_rfl) rfl rfl (fun _ _ _ h => h) ?_
          simp only [PS]
          refine Reg.xt (v := .int .i64 ((k : Nat) : Int)) 11 (fun W hW => run_move (by rfl) (by simp [Act.eval]) W) (by kernel_rfl) rfl rfl (fun _ _ _ h => h) ?_
          simp only [PS]
          refine Reg.xt 12 (fun W hW => Reg.idx (by rfl) Try.underlying136 Reg.sz64 (w.heap.size + 1) (k) (by simp [Act.eval]) (by simp [Act.eval]) HE18.out.2.1) (by kernel_rfl) rfl rfl (fun _ _ _ h => h) ?_
          simp only [PS]
          refine Reg.xt (v := .int .u64 ((n64 (Cha.at64 r k) : Nat) : Int)) 13 (fun W hW => Reg.ld Reg.na64 (by rfl) ⟨w.heap.size + 1, k, none⟩ _ (by simp [Act.eval]) (Cha.Blk.cell64 hW.br k (by rw [LR.out]; exact HE18.out.2.1))) (by kernel_rfl) rfl rfl (fun _ _ _ h => h) ?_
          simp only [PS]
          refine Reg.xt (v := .int .u64 ((n64 (Cha.at64 a i * Cha.at64 r k) : Nat) : Int)) 14 (fun W hW => Reg.mul64 (by rfl) _ _ (by simp [Act.eval]) (by simp [Act.eval])) (by kernel_rfl) rfl rfl (fun _ _ _ h => h) ?_
          simp only [PS]
          refine Reg.xt (v := .int .u64 ((n64 (Cha.at64 p E + Cha.at64 a i * Cha.at64 r k) : Nat) : Int)) 15 (fun W hW => Reg.add64 (by rfl) _ _ (by simp [Act.eval]) (by simp [Act.eval])) (by kernel_rfl) rfl rfl (fun _ _ _ h => h) ?_
          simp only [PS]
          refine Reg.xt 16 (fun W hW => Reg.idx (by rfl) Try.underlying146 Reg.sz64 (w.heap.size + 1 + 1 + 1) (E) (by simp [Act.eval]) (by simp [Act.eval]) HE18.out.1) (by kernel_rfl) rfl rfl (fun _ _ _ h => h) ?_
          simp only [PS]
          refine x_last (by kernel_rfl) (by kernel_rfl) (fun W hW _ => ?_) _
          refine op_skip (o := _) rfl (wanted_plain rfl) _ (Reg.st_ Reg.na64 Reg.sz64 (by rfl) ⟨w.heap.size + 1 + 1 + 1, E, none⟩ .u64 ((n64 (Cha.at64 p E + Cha.at64 a i * Cha.at64 r k) : Nat) : Int) _ (by simp [Act.eval]) (by simp [Act.eval]) (Cha.Blk.cell64 hW.bp E (by rw [Lp.out]; exact HE18.out.1)) (hW.bp.frozen E)) ?_
          simp only [PS]
          have H2 := hW.set_ E (Cha.at64 p E + Cha.at64 a i * Cha.at64 r k)
          clear hW H1
          go_wp2
          go_roundw
          case rel => exact ⟨k + 1, _, by omega, by go_num, HI2, H2⟩
          case measure => simp [intOf]; omega
        · have ek : k = 8 := by omega
          subst ek
          have tk : ¬ ((8 : Nat) : Int) < 8 := by omega
          have HI2 := hd (HI.out.row (by rw [LA.out]; exact hlt) LR.out)
          go_wp2
          go_roundw
          case rel => exact ⟨i + 1, p, by omega, by go_num, HI2, H1⟩
          case measure => simp [intOf]; omega
    · have ei : i = 9 := by omega
      subst ei
      have ti : ¬ ((9 : Nat) : Int) < 9 := by omega
      have Hdone := hd (HI.out.done LA.out)
      have Lp := hd HI.out.len
      have Hc := hd (Rc.carried_any (Cha.Bt 0) p Lp.out (by decide) Hdone.out.2 wr)
      clear HI
      go_wp2_with (first
        | (refine wpl_load rfl 146 _ rfl ⟨w.heap.size + 1 + 1 + 1, 0, none⟩ rfl 18 Cha.agg18 (p.map Cha.V64) (by rw [List.length_map, Lp.out]) H1.bp.cells ?_)
        | (go_at_call 94; refine Hc.out.mono ?_; rintro e W5 ⟨p0, rfl, hc0, hv0, hE⟩; have H5 := H1.next hE; have Lc := hd hc0.len; have HC0 := hd hc0; have HV0 := hd (hv0.trans (Hdone.out.1.trans HX.out)); clear hc0 hv0)
        | (refine wpl_store rfl 146 _ _ rfl (w.heap.size + 1 + 1 + 1) 0 (p0.map Cha.V64) rfl rfl 146 _ H5.bp (by rw [List.length_map, Lc.out]; kernel_rfl) (by rw [List.length_map, Lc.out, Cha.row64_size, Lp.out]; decide) (by simp [Cha.V64, Value.oneCell']) ?_; rw [splice_all _ _ (by rw [List.length_map, Lc.out, Cha.row64_size, Lp.out])]; refine wpl_name (Rc.Pd w a r p0) (H5.put p0) ?_; clear H5 H1; intro W6 H6))
      go_loopw [8] (fun t wr => ∃ (k : Nat) (p : List UInt64), k ≤ 2 ∧ t = .int .i64 ((k : Nat) : Int) ∧ Hd (Cha.Carried (Cha.Bt k) p) ∧ Hd (Cha.dval p = Cha.foldT k X) ∧ Rc.Pd w a r p wr) (fun t _ => 2 - (intOf t).toNat)
      case atStart => exact ⟨0, p0, by omega, rfl, HC0, HV0, H6⟩
      case round =>
        clear HC0 HV0 H6
        obtain ⟨T, p, hT, rfl, HC, HV, H1⟩ := hrel
        have Lp := hd HC.out.len
        by_cases hlT : T < 2
        · have tT : (T : Int) < 2 := by omega
          obtain ⟨z, Hz⟩ : ∃ z, Hd (wr.heap.size = z) := ⟨_, ⟨rfl⟩⟩
          have hz := H1.bp.lt
          rw [Hz.out] at hz
          go_wp2_with (refine wpl_alloc rfl 146 rfl _ Cha.zero18 ?_; rw [Hz.out]; refine wpl_name (fun W => Rc.Pd w a r p W ∧ Blk W z 146 (Cha.row64 (List.replicate 18 0))) ⟨H1.next ((Below.refl _ _).alloc (Nat.le_refl _) _), Blk.nu Hz.out.symm⟩ ?_; clear H1; rintro W2 ⟨H1, bz⟩)
          go_loopw [10] (fun i wr => ∃ m : Nat, m ≤ 9 ∧ i = .int .i64 ((8 + m : Nat) : Int) ∧ Rc.Pd w a r p wr ∧ Blk wr z 146 (Cha.row64 ((List.range 18).map (Cha.hiF p m)))) (fun i _ => 17 - (intOf i).toNat)
          case atStart => exact ⟨0, by omega, rfl, H1, by rw [Cha.hi_start]; exact bz⟩
          case round =>
            clear H1 bz
            obtain ⟨m, hm, rfl, H1, bz⟩ := hrel
            obtain ⟨J, HJ⟩ : ∃ J, Hd (8 + m = J) := ⟨_, ⟨rfl⟩⟩
            rw [HJ.out]
            by_cases hlm : m < 9
            · have tm : (J : Int) < 17 := by have := HJ.out; omega
              obtain ⟨E, HE⟩ : ∃ E, Hd (J + 1 = E) := ⟨_, ⟨rfl⟩⟩
              have HB := hd (show m < 18 ∧ J < 18 ∧ E < 18 by have := HJ.out; have := HE.out; omega)
              have Hhv := hd (show Cha.hv p m = shr64 (Cha.at64 p J) 2 ||| (shl64 (Cha.at64 p E) 14 &&& 65535) by unfold Cha.hv; rw [HJ.out, HE.out])
              obtain ⟨hl, Hhl⟩ : ∃ x, Hd ((List.range 18).map (Cha.hiF p m) = x) := ⟨_, ⟨rfl⟩⟩
              have Lh := hd (show hl.length = 18 by rw [← Hhl.out]; simp)
              rw [Hhl.out] at bz
              have wJ : IntKind.i64.wrap ((J : Int) + 1) = (J : Int) + 1 := IntWalk.i64_in _ (by have := HB.out; omega)
              go_wp2
              refine x_start 14 (fun W => Rc.Pd w a r p W ∧ Blk W z 146 (Cha.row64 hl)) (by kernel_rfl) (⟨H1.next (Below.refl _ _).drew, bz.drew⟩) ?_
              refine Reg.xt (v := .int .i64 ((J : Nat) : Int)) 0 (fun W hW => run_move (by rfl) (by simp [Act.eval]) W) (by kernel_rfl) rfl rfl (fun _ _ _ h => h) ?_
              simp only [PS]
              refine Reg.xt 1 (fun W hW => Reg.subN (by rfl) J 8 m (by have := HJ.out; omega) (by have := HB.out; omega) (by simp [Act.eval]) (by simp [Act.eval])) (by kernel_rfl) rfl rfl (fun _ _ _ h => h) ?_
              simp only [PS]
              refine Reg.xt (v := .int .i64 ((J : Nat) : Int)) 2 (fun W hW => run_move (by rfl) (by simp [Act.eval]) W) (by kernel_rfl) rfl rfl (fun _ _ _ h => h) ?_
              simp only [PS]
              refine Reg.xt 3 (fun W hW => Reg.idx (by rfl) Try.underlying146 Reg.sz64 (w.heap.size + 1 + 1 + 1) (J) (by simp [Act.eval]) (by simp [Act.eval]) HB.out.2.1) (by kernel_rfl) rfl rfl (fun _ _ _ h => h) ?_
              simp only [PS]
              refine Reg.xt (v := .int .u64 ((n64 (Cha.at64 p J) : Nat) : Int)) 4 (fun W hW => Reg.ld Reg.na64 (by rfl) ⟨w.heap.size + 1 + 1 + 1, J, none⟩ _ (by simp [Act.eval]) (Cha.Blk.cell64 hW.1.bp J (by rw [Lp.out]; exact HB.out.2.1))) (by kernel_rfl) rfl rfl (fun _ _ _ h => h) ?_
              simp only [PS]
              refine Reg.xt (v := .int .u64 ((n64 (shr64 (Cha.at64 p J) 2) : Nat) : Int)) 5 (fun W hW => Reg.shr2 (by rfl) _ (by simp [Act.eval]) (by simp [Act.eval])) (by kernel_rfl) rfl rfl (fun _ _ _ h => h) ?_
              simp only [PS]
              refine Reg.xt (v := .int .i64 ((J : Nat) : Int)) 6 (fun W hW => run_move (by rfl) (by simp [Act.eval]) W) (by kernel_rfl) rfl rfl (fun _ _ _ h => h) ?_
              simp only [PS]
              refine Reg.xt 7 (fun W hW => Reg.addN (by rfl) J 1 E HE.out (by have := HB.out; omega) (by simp [Act.eval]) (by simp [Act.eval])) (by kernel_rfl) rfl rfl (fun _ _ _ h => h) ?_
              simp only [PS]
              refine Reg.xt 8 (fun W hW => Reg.idx (by rfl) Try.underlying146 Reg.sz64 (w.heap.size + 1 + 1 + 1) (E) (by simp [Act.eval]) (by simp [Act.eval]) HB.out.2.2) (by kernel_rfl) rfl rfl (fun _ _ _ h => h) ?_
              simp only [PS]
              refine Reg.xt (v := .int .u64 ((n64 (Cha.at64 p E) : Nat) : Int)) 9 (fun W hW => Reg.ld Reg.na64 (by rfl) ⟨w.heap.size + 1 + 1 + 1, E, none⟩ _ (by simp [Act.eval]) (Cha.Blk.cell64 hW.1.bp E (by rw [Lp.out]; exact HB.out.2.2))) (by kernel_rfl) rfl rfl (fun _ _ _ h => h) ?_
              simp only [PS]
              refine Reg.xt (v := .int .u64 ((n64 (shl64 (Cha.at64 p E) 14) : Nat) : Int)) 10 (fun W hW => Reg.shl14 (by rfl) _ (by simp [Act.eval]) (by simp [Act.eval])) (by kernel_rfl) rfl rfl (fun _ _ _ h => h) ?_
              simp only [PS]
              refine Reg.xt (v := .int .u64 ((n64 (shl64 (Cha.at64 p E) 14 &&& 65535) : Nat) : Int)) 11 (fun W hW => Reg.and16 (by rfl) _ (by simp [Act.eval]) (by simp [Act.eval])) (by kernel_rfl) rfl rfl (fun _ _ _ h => h) ?_
              simp only [PS]
              refine Reg.xt (v := .int .u64 ((n64 (shr64 (Cha.at64 p J) 2 ||| (shl64 (Cha.at64 p E) 14 &&& 65535)) : Nat) : Int)) 12 (fun W hW => Reg.or64 (by rfl) _ _ (by simp [Act.eval]) (by simp [Act.eval])) (by kernel_rfl) rfl rfl (fun _ _ _ h => h) ?_
              simp only [PS]
              refine Reg.xt 13 (fun W hW => Reg.idx (by rfl) Try.underlying146 Reg.sz64 (z) (m) (by simp [Act.eval]) (by simp [Act.eval]) HB.out.1) (by kernel_rfl) rfl rfl (fun _ _ _ h => h) ?_
              simp only [PS]
              refine x_last (by kernel_rfl) (by kernel_rfl) (fun W hW _ => ?_) _
              refine op_skip (o := _) rfl (wanted_plain rfl) _ (Reg.st_ Reg.na64 Reg.sz64 (by rfl) ⟨z, m, none⟩ .u64 ((n64 (shr64 (Cha.at64 p J) 2 ||| (shl64 (Cha.at64 p E) 14 &&& 65535)) : Nat) : Int) _ (by simp [Act.eval]) (by simp [Act.eval]) (Cha.Blk.cell64 hW.2 m (by rw [Lh.out]; exact HB.out.1)) (hW.2.frozen m)) ?_
              simp only [PS]
              have H2 := hW.1.far hz m (.int .u64 ((n64 (shr64 (Cha.at64 p J) 2 ||| (shl64 (Cha.at64 p E) 14 &&& 65535)) : Nat) : Int))
              have b2 := Cha.Blk.set64 hW.2 m (shr64 (Cha.at64 p J) 2 ||| (shl64 (Cha.at64 p E) 14 &&& 65535))
              rw [← Hhv.out, ← Hhl.out, Cha.hi_set] at b2
              rw [← Hhv.out] at H2 ⊢
              clear hW H1 bz
              go_wp2
              go_roundw
              case rel => exact ⟨m + 1, by omega, by have := HJ.out; congr 1 <;> omega, H2, b2⟩
              case measure => have := HJ.out; have := HE.out; simp [intOf]; omega
            · have em : m = 9 := by omega
              subst em
              have eJ := HJ.out
              subst eJ
              have tm : ¬ ((17 : Nat) : Int) < 17 := by omega
              obtain ⟨hl, Hhl⟩ : ∃ x, Hd ((List.range 18).map (Cha.hiF p 9) = x) := ⟨_, ⟨rfl⟩⟩
              have Lh := hd (show hl.length = 18 by rw [← Hhl.out]; simp)
              rw [Hhl.out] at bz
              have c1 := Cha.Blk.cell64 H1.bp 17 (by rw [Lp.out]; decide)
              have c2 := Cha.Blk.cell64 H1.bp 8 (by rw [Lp.out]; decide)
              have c3 := Cha.Blk.cell64 bz 9 (by rw [Lh.out]; decide)
              have f2 := H1.bp.frozen 8
              have f3 := bz.frozen 9
              have H2 := (H1.far hz 9 (.int .u64 ((n64 (shr64 (Cha.at64 p 17) 2) : Nat) : Int))).set_ 8 (Cha.at64 p 8 &&& 3)
              have b2 := (Cha.Blk.set64 bz 9 (shr64 (Cha.at64 p 17) 2)).far (p := ⟨w.heap.size + 1 + 1 + 1, 8, none⟩) (by simp only []; omega) (.int .u64 ((n64 (Cha.at64 p 8 &&& 3) : Nat) : Int))
              rw [Cha.lo_start p Lp.out, Reg.shr_2] at H2
              rw [← Hhl.out, Cha.hi_end, Reg.shr_2] at b2
              clear H1 bz
              go_wp2
              go_loopw [11] (fun i wr => ∃ m : Nat, 9 ≤ m ∧ m ≤ 18 ∧ i = .int .i64 ((m : Nat) : Int) ∧ Rc.Pd w a r ((List.range 18).map (Cha.loF p m)) wr ∧ Blk wr z 146 (Cha.row64 ((List.range 18).map (Cha.hiAll p)))) (fun i _ => 18 - (intOf i).toNat)
              case atStart => exact ⟨9, by omega, by omega, rfl, H2, b2⟩
              case round =>
                clear H2 b2 c1 c2 c3 f2 f3
                obtain ⟨m, hm9, hm, rfl, H1, bz⟩ := hrel
                by_cases hlm : m < 18
                · have tm : (m : Int) < 18 := by omega
                  have c1 := Cha.Blk.cell64 H1.bp m (by simp; exact hlm)
                  have f1 := H1.bp.frozen m
                  have H2 := H1.set_ m 0
                  rw [Cha.lo_set p m hm9] at H2
                  have b2 := bz.far (p := ⟨w.heap.size + 1 + 1 + 1, m, none⟩) (by simp only []; omega) (.int .u64 ((n64 (0) : Nat) : Int))
                  clear H1 bz
                  go_wp2
                  go_roundw
                  case rel => exact ⟨m + 1, by omega, by omega, by go_num, H2, b2⟩
                  case measure => simp [intOf]; omega
                · have em : m = 18 := by omega
                  subst em
                  have tm : ¬ ((18 : Nat) : Int) < 18 := by omega
                  rw [Cha.up_start] at H1
                  go_wp2
                  go_loopw [12] (fun i wr => ∃ m : Nat, m ≤ 10 ∧ i = .int .i64 ((m : Nat) : Int) ∧ Rc.Pd w a r ((List.range 18).map (Cha.upF p m)) wr ∧ Blk wr z 146 (Cha.row64 ((List.range 18).map (Cha.hiAll p)))) (fun i _ => 10 - (intOf i).toNat)
                  case atStart => exact ⟨0, by omega, rfl, H1, bz⟩
                  case round =>
                    clear H1 bz
                    obtain ⟨m, hm, rfl, H1, bz⟩ := hrel
                    by_cases hlm : m < 10
                    · have tm : (m : Int) < 10 := by omega
                      have HB := hd (show m < 18 by omega)
                      obtain ⟨pl, Hpl⟩ : ∃ x, Hd ((List.range 18).map (Cha.upF p m) = x) := ⟨_, ⟨rfl⟩⟩
                      obtain ⟨hl, Hhl⟩ : ∃ x, Hd ((List.range 18).map (Cha.hiAll p) = x) := ⟨_, ⟨rfl⟩⟩
                      have Lpl := hd (show pl.length = 18 by rw [← Hpl.out]; simp)
                      have Lh := hd (show hl.length = 18 by rw [← Hhl.out]; simp)
                      have e1 := hd (show Cha.at64 pl m = Cha.loF p 18 m by rw [← Hpl.out]; exact Cha.up_at p m HB.out)
                      have e2 := hd (show Cha.at64 hl m = Cha.hiAll p m by rw [← Hhl.out]; exact Cha.at64_map _ _ _ HB.out)
                      rw [Hpl.out] at H1
                      rw [Hhl.out] at bz
                      go_wp2
                      refine x_start 10 (fun W => Rc.Pd w a r pl W ∧ Blk W z 146 (Cha.row64 hl)) (by kernel_rfl) (⟨H1.next (Below.refl _ _).drew, bz.drew⟩) ?_
                      refine Reg.xt (v := .int .i64 ((m : Nat) : Int)) 0 (fun W hW => run_move (by rfl) (by simp [Act.eval]) W) (by kernel_rfl) rfl rfl (fun _ _ _ h => h) ?_
                      simp only [PS]
                      refine Reg.xt (v := .int .i64 ((m : Nat) : Int)) 1 (fun W hW => run_move (by rfl) (by simp [Act.eval]) W) (by kernel_rfl) rfl rfl (fun _ _ _ h => h) ?_
                      simp only [PS]
                      refine Reg.xt 2 (fun W hW => Reg.idx (by rfl) Try.underlying146 Reg.sz64 (w.heap.size + 1 + 1 + 1) (m) (by simp [Act.eval]) (by simp [Act.eval]) HB.out) (by kernel_rfl) rfl rfl (fun _ _ _ h => h) ?_
                      simp only [PS]
                      refine Reg.xt (v := .int .u64 ((n64 (Cha.at64 pl m) : Nat) : Int)) 3 (fun W hW => Reg.ld Reg.na64 (by rfl) ⟨w.heap.size + 1 + 1 + 1, m, none⟩ _ (by simp [Act.eval]) (Cha.Blk.cell64 hW.1.bp m (by rw [Lpl.out]; exact HB.out))) (by kernel_rfl) rfl rfl (fun _ _ _ h => h) ?_
                      simp only [PS]
                      refine Reg.xt (v := .int .i64 ((m : Nat) : Int)) 4 (fun W hW => run_move (by rfl) (by simp [Act.eval]) W) (by kernel_rfl) rfl rfl (fun _ _ _ h => h) ?_
                      simp only [PS]
                      refine Reg.xt 5 (fun W hW => Reg.idx (by rfl) Try.underlying146 Reg.sz64 (z) (m) (by simp [Act.eval]) (by simp [Act.eval]) HB.out) (by kernel_rfl) rfl rfl (fun _ _ _ h => h) ?_
                      simp only [PS]
                      refine Reg.xt (v := .int .u64 ((n64 (Cha.at64 hl m) : Nat) : Int)) 6 (fun W hW => Reg.ld Reg.na64 (by rfl) ⟨z, m, none⟩ _ (by simp [Act.eval]) (Cha.Blk.cell64 hW.2 m (by rw [Lh.out]; exact HB.out))) (by kernel_rfl) rfl rfl (fun _ _ _ h => h) ?_
                      simp only [PS]
                      refine Reg.xt (v := .int .u64 ((n64 (5 * Cha.at64 hl m) : Nat) : Int)) 7 (fun W hW => Reg.mul5 (by rfl) _ (by simp [Act.eval]) (by simp [Act.eval])) (by kernel_rfl) rfl rfl (fun _ _ _ h => h) ?_
                      simp only [PS]
                      refine Reg.xt (v := .int .u64 ((n64 (Cha.at64 pl m + 5 * Cha.at64 hl m) : Nat) : Int)) 8 (fun W hW => Reg.add64 (by rfl) _ _ (by simp [Act.eval]) (by simp [Act.eval])) (by kernel_rfl) rfl rfl (fun _ _ _ h => h) ?_
                      simp only [PS]
                      refine Reg.xt 9 (fun W hW => Reg.idx (by rfl) Try.underlying146 Reg.sz64 (w.heap.size + 1 + 1 + 1) (m) (by simp [Act.eval]) (by simp [Act.eval]) HB.out) (by kernel_rfl) rfl rfl (fun _ _ _ h => h) ?_
                      simp only [PS]
                      refine x_last (by kernel_rfl) (by kernel_rfl) (fun W hW _ => ?_) _
                      refine op_skip (o := _) rfl (wanted_plain rfl) _ (Reg.st_ Reg.na64 Reg.sz64 (by rfl) ⟨w.heap.size + 1 + 1 + 1, m, none⟩ .u64 ((n64 (Cha.at64 pl m + 5 * Cha.at64 hl m) : Nat) : Int) _ (by simp [Act.eval]) (by simp [Act.eval]) (Cha.Blk.cell64 hW.1.bp m (by rw [Lpl.out]; exact HB.out)) (hW.1.bp.frozen m)) ?_
                      simp only [PS]
                      have H2 := hW.1.set_ m (Cha.at64 pl m + 5 * Cha.at64 hl m)
                      have b2 := hW.2.far (p := ⟨w.heap.size + 1 + 1 + 1, m, none⟩) (by simp only []; omega) (.int .u64 ((n64 (Cha.at64 pl m + 5 * Cha.at64 hl m) : Nat) : Int))
                      rw [e1.out, e2.out, ← Hpl.out, Cha.up_set] at H2
                      rw [e1.out, e2.out, ← Hhl.out] at b2
                      rw [e1.out, e2.out]
                      clear hW H1 bz
                      go_wp2
                      go_roundw
                      case rel => exact ⟨m + 1, by omega, by go_num, H2, b2⟩
                      case measure => simp [intOf]; omega
                    · have em : m = 10 := by omega
                      subst em
                      have tm : ¬ ((10 : Nat) : Int) < 10 := by omega
                      have hf := Cha.fold_val p HC.out (Cha.Bt_le T (by omega))
                      obtain ⟨pl, Hpl⟩ : ∃ x, Hd ((List.range 18).map (Cha.upF p 10) = x) := ⟨_, ⟨rfl⟩⟩
                      have Lpl := hd (show pl.length = 18 by rw [← Hpl.out]; simp)
                      rw [Hpl.out] at hf H1
                      have hBt : Cha.Bt (T + 1) ≤ 4611686018427387904 := Nat.le_trans (Cha.Bt_le (T + 1) (by omega)) (by decide)
                      have Hc := hd (Rc.carried_any (Cha.Bt (T + 1)) pl Lpl.out hBt (by unfold Cha.Bt; exact hf.2) wr)
                      have Hf := hd hf.1
                      clear hf hBt
                      go_wp2_with (first
                        | (refine wpl_load rfl 146 _ rfl ⟨w.heap.size + 1 + 1 + 1, 0, none⟩ rfl 18 Cha.agg18 (pl.map Cha.V64) (by rw [List.length_map, Lpl.out]) H1.bp.cells ?_)
                        | (go_at_call 94; refine Hc.out.mono ?_; rintro e W5 ⟨p1, rfl, hc1, hv1, hE⟩; have H5 := H1.next hE; have Lc := hd hc1.len; have HC1 := hd hc1; have HV1 := hd (show Cha.dval p1 = Cha.foldT (T + 1) X by rw [hv1, Hf.out, HV.out]; rfl); clear hc1 hv1)
                        | (refine wpl_store rfl 146 _ _ rfl (w.heap.size + 1 + 1 + 1) 0 (p1.map Cha.V64) rfl rfl 146 _ H5.bp (by rw [List.length_map, Lc.out]; kernel_rfl) (by rw [List.length_map, Lc.out, Cha.row64_size, Lpl.out]; decide) (by simp [Cha.V64, Value.oneCell']) ?_; rw [splice_all _ _ (by rw [List.length_map, Lc.out, Cha.row64_size, Lpl.out])]; refine wpl_name (Rc.Pd w a r p1) (H5.put p1) ?_; clear H5 H1; intro W6 H6))
                      go_roundw
                      case rel => exact ⟨T + 1, p1, by omega, by go_num, HC1, HV1, H6⟩
                      case measure => simp [intOf]; omega
        · have eT : T = 2 := by omega
          subst eT
          have tT : ¬ ((2 : Nat) : Int) < 2 := by omega
          obtain ⟨y, Hy⟩ : ∃ z, Hd (wr.heap.size = z) := ⟨_, ⟨rfl⟩⟩
          have hy := H1.bp.lt
          rw [Hy.out] at hy
          have h9 := Cha.cut_end p HC.out (by rw [HV.out]; have := Cha.foldT_lt X HX2.out; omega)
          rw [HV.out] at h9
          have H9 := hd h9
          clear h9
          go_wp2_with (refine wpl_alloc rfl 137 rfl _ Cha.zero9 ?_; rw [Hy.out]; refine wpl_name (fun W => Rc.Pd w a r p W ∧ Blk W y 137 (Cha.row64 (List.replicate 9 0))) ⟨H1.next ((Below.refl _ _).alloc (Nat.le_refl _) _), Blk.nu Hy.out.symm⟩ ?_; clear H1; rintro W2 ⟨H1, by1⟩)
          go_loopw [14] (fun i wr => ∃ m : Nat, m ≤ 9 ∧ i = .int .i64 ((m : Nat) : Int) ∧ Rc.Pd w a r p wr ∧ Blk wr y 137 (Cha.row64 ((List.range 9).map (Cha.cutF p m)))) (fun i _ => 9 - (intOf i).toNat)
          case atStart => exact ⟨0, by omega, rfl, H1, by rw [Cha.cut_start]; exact by1⟩
          case round =>
            clear H1 by1
            obtain ⟨m, hm, rfl, H1, by1⟩ := hrel
            by_cases hlm : m < 9
            · have tm : (m : Int) < 9 := by omega
              have tm18 : (m : Int) < 18 := by omega
              have c1 := Cha.Blk.cell64 H1.bp m (by rw [Lp.out]; omega)
              have c2 := Cha.Blk.cell64 by1 m (by simp; exact hlm)
              have f2 := by1.frozen m
              have H2 := H1.far hy m (.int .u64 ((n64 (Cha.at64 p m) : Nat) : Int))
              have b2 := Cha.Blk.set64 by1 m (Cha.at64 p m)
              rw [Cha.cut_set] at b2
              clear H1 by1
              go_wp2
              go_roundw
              case rel => exact ⟨m + 1, by omega, by go_num, H2, b2⟩
              case measure => simp [intOf]; omega
            · have em : m = 9 := by omega
              subst em
              have tm : ¬ ((9 : Nat) : Int) < 9 := by omega
              obtain ⟨q, Hq⟩ : ∃ x, Hd ((List.range 9).map (Cha.cutF p 9) = x) := ⟨_, ⟨rfl⟩⟩
              rw [Hq.out] at by1 H9
              have Lq := hd H9.out.len
              go_wp2_with (first
                | (refine wpl_load rfl 137 _ rfl ⟨y, 0, none⟩ rfl 9 Cha.agg9 (q.map Cha.V64) (by rw [List.length_map, Lq.out]) by1.cells ?_)
                | (refine wpl_store rfl 137 _ _ rfl (w.heap.size + 1 + 1) 0 (q.map Cha.V64) rfl rfl 137 _ H1.bo (by rw [List.length_map, Lq.out]; kernel_rfl) (by rw [List.length_map, Lq.out]; decide) (by simp [Cha.V64, Value.oneCell']) ?_; rw [splice_all _ _ (by rw [List.length_map, Lq.out]; rfl)]))
              exact Rc.ret_vals rfl (w.heap.size + 1 + 1) rfl Cha.agg9 (q.map Cha.V64) (by rw [List.length_map, Lq.out]) (H1.bo.setRow _).cells rfl ⟨q, rfl, H9.out, below_setRow H1.old (by omega) _⟩
end Go.Proofs.Ytbcboldepghgpaa

namespace Go.Proofs.Ytbcboldepghgpaa
open Go.RowKit
structure Rc.Ed (w : World) (a : List UInt64) (W : World) : Prop where
  ba : Blk W (w.heap.size) 137 (Cha.row64 a)
  bo : Blk W (w.heap.size + 1) 137 (Cha.row64 (List.replicate 9 0))
  old : Below w.heap.size w W
section
variable {w W W' : World} {a r p : List UInt64}
theorem Rc.Ed.next (h : Rc.Ed w a W) (hb : Below W.heap.size W W') : Rc.Ed w a W' := ⟨h.ba.below hb h.ba.lt, h.bo.below hb h.bo.lt, h.old.trans (hb.mono h.old.size)⟩
theorem Rc.Ed.far (h : Rc.Ed w a W) {z : Nat} (hz : w.heap.size + 1 < z) (i : Nat) (u : Value) : Rc.Ed w a (W.setCell ⟨z, i, none⟩ u) :=
  ⟨h.ba.far (by simp only []; omega) _, h.bo.far (by simp only []; omega) _, h.old.setCell (by simp only []; omega) _⟩
theorem Rc.Ed.put (h : Rc.Ed w a W) (a' : List UInt64) : Rc.Ed w a' (W.setRow (w.heap.size) (Cha.row64 a')) :=
  ⟨h.ba.setRow _, h.bo.farRow (by omega) _, below_setRow h.old (by omega) _⟩
end
set_option maxHeartbeats 16000000 in
set_option maxRecDepth 100000 in
theorem Rc.ended_any (a0 : List UInt64) (v0 : Nat) (h0 : Cha.Nine a0 v0) (hv : v0 < 2 ^ 131) (w : World) :
    Calls Try.prog 81 #[.agg (Cha.row64 a0)] w fun e w' => ∃ q, e = .returned (.agg (Cha.row64 q)) ∧ Cha.Nine q (v0 % Cha.Q) ∧ Below w.heap.size w w' := by
  have H0 := hd h0
  have Hv := hd hv
  clear h0 hv
  go_enter Try.func81, Try.ntmps81
  go_wp2_with (first
    | (refine wpl_alloc rfl 137 rfl _ Cha.zero9 ?_; simp only [World.size_alloc]; refine wpl_name (Rc.Ed w a0) ⟨(Blk.nu rfl).alloc _, Blk.nu (by simp), ((Below.refl _ _).alloc (by simp) _).alloc (by simp) _⟩ ?_; intro W1 H1))
  go_loopw [3] (fun t wr => ∃ (k : Nat) (a : List UInt64) (v : Nat), k ≤ 4 ∧ t = .int .i64 ((k : Nat) : Int) ∧ Hd (Cha.Nine a v) ∧ Hd (v + k * Cha.Q = v0) ∧ Rc.Ed w a wr) (fun t _ => 4 - (intOf t).toNat)
  case atStart => exact ⟨0, a0, v0, by omega, rfl, H0, hd (by omega), H1⟩
  case round =>
    clear H0 H1
    obtain ⟨T, a, v, hT, rfl, HN, HV, H1⟩ := hrel
    have La := hd HN.out.len
    have HT := hd (show T < 4 ∧ v + 5 < 65536 ^ 9 by
      have h1 := HV.out
      have h2 := Hv.out
      have h3 : Cha.Q = 1361129467683753853853498429727072845819 := rfl
      have h4 : (65536 : Nat) ^ 9 = 22300745198530623141535718272648361505980416 := by decide
      rw [h3] at h1
      rw [h4]
      refine ⟨?_, by omega⟩
      rcases (show T = 0 ∨ T = 1 ∨ T = 2 ∨ T = 3 ∨ T = 4 by omega) with e | e | e | e | e <;> subst e <;> omega)
    have tT : (T : Int) < 4 := by have := HT.out; omega
    obtain ⟨z, Hz⟩ : ∃ z, Hd (wr.heap.size = z) := ⟨_, ⟨rfl⟩⟩
    have hz := H1.bo.lt
    rw [Hz.out] at hz
    go_wp2_with (refine wpl_alloc rfl 137 rfl _ Cha.zero9 ?_; rw [Hz.out]; refine wpl_name (fun W => Rc.Ed w a W ∧ Blk W z 137 (Cha.row64 (List.replicate 9 0))) ⟨H1.next ((Below.refl _ _).alloc (Nat.le_refl _) _), Blk.nu Hz.out.symm⟩ ?_; clear H1; rintro W2 ⟨H1, bz⟩)
    go_loopw [5, 6] (fun c i wr => ∃ m : Nat, m ≤ 9 ∧ i = .int .i64 ((m : Nat) : Int) ∧ c = .int .u64 ((n64 (Cha.cF a m) : Nat) : Int) ∧ Rc.Ed w a wr ∧ Blk wr z 137 (Cha.row64 ((List.range 9).map (Cha.bF a m)))) (fun _ i _ => 9 - (intOf i).toNat)
    case atStart => exact ⟨0, by omega, rfl, rfl, H1, by rw [Cha.b_start]; exact bz⟩
    case round =>
      clear H1 bz
      obtain ⟨m, hm, rfl, rfl, H1, bz⟩ := hrel
      by_cases hlm : m < 9
      · have tm : (m : Int) < 9 := by omega
        obtain ⟨cm, Hcm⟩ : ∃ x, Hd (Cha.cF a m = x) := ⟨_, ⟨rfl⟩⟩
        have Hcn := hd (show Cha.cF a (m + 1) = (Cha.at64 a m + cm) >>> 16 by rw [← Hcm.out]; rfl)
        have c1 := Cha.Blk.cell64 H1.ba m (by rw [La.out]; exact hlm)
        have c2 := Cha.Blk.cell64 bz m (by simp; exact hlm)
        have f2 := bz.frozen m
        have H2 := H1.far hz m (.int .u64 ((n64 ((Cha.at64 a m + cm) &&& 65535) : Nat) : Int))
        have b2 := Cha.Blk.set64 bz m ((Cha.at64 a m + cm) &&& 65535)
        rw [← Hcm.out, Cha.b_set, Hcm.out] at b2
        rw [Hcm.out]
        clear H1 bz
        go_wp2
        go_roundw
        case rel => exact ⟨m + 1, by omega, by go_num, by rw [Hcn.out], H2, b2⟩
        case measure => simp [intOf]; omega
      · have em : m = 9 := by omega
        subst em
        have tm : ¬ ((9 : Nat) : Int) < 9 := by omega
        have hp := HN.out.plus HT.out.2
        have hc := hp.1
        obtain ⟨b, Hb⟩ : ∃ x, Hd ((List.range 9).map (Cha.bF a 9) = x) := ⟨_, ⟨rfl⟩⟩
        rw [Hb.out] at hp bz
        have HNb := hd hp.2
        have Lb := hd HNb.out.len
        rw [hc, show ((n64 (0 : UInt64) : Nat) : Int) = 0 from rfl]
        clear hp hc
        have c8 := Cha.Blk.cell64 bz 8 (by rw [Lb.out]; decide)
        have f8 := bz.frozen 8
        have htop := HNb.out.top
        have e8 : (65536 : Nat) ^ 8 = 340282366920938463463374607431768211456 := by decide
        rw [e8] at htop
        by_cases hlow : v + 5 < 2 ^ 130
        · have t8 : ((n64 (Cha.at64 b 8) : Nat) : Int) < 4 := by
            have : n64 (Cha.at64 b 8) < 4 := by show (Cha.at64 b 8).toNat < 4; omega
            omega
          have hq := hd (show Cha.Nine a (v0 % Cha.Q) by
            have h1 := HV.out
            have h3 : Cha.Q = 1361129467683753853853498429727072845819 := rfl
            have h5 : v0 % Cha.Q = v := by rw [← h1, Nat.add_mul_mod_self_right]; exact Nat.mod_eq_of_lt (by rw [h3]; omega)
            rw [h5]; exact HN.out)
          clear htop hlow e8
          go_wp2_with (first
            | (refine wpl_load rfl 137 _ rfl ⟨w.heap.size, 0, none⟩ rfl 9 Cha.agg9 (a.map Cha.V64) (by rw [List.length_map, La.out]) H1.ba.cells ?_)
            | (refine wpl_store rfl 137 _ _ rfl (w.heap.size + 1) 0 (a.map Cha.V64) rfl rfl 137 _ H1.bo (by rw [List.length_map, La.out]; kernel_rfl) (by rw [List.length_map, La.out]; decide) (by simp [Cha.V64, Value.oneCell']) ?_; rw [splice_all _ _ (by rw [List.length_map, La.out]; rfl)]))
          exact Rc.ret_vals rfl (w.heap.size + 1) rfl Cha.agg9 (a.map Cha.V64) (by rw [List.length_map, La.out]) (H1.bo.setRow _).cells rfl ⟨a, rfl, hq.out, below_setRow H1.old (by omega) _⟩
        · have t8 : ¬ ((n64 (Cha.at64 b 8) : Nat) : Int) < 4 := by
            have : ¬ n64 (Cha.at64 b 8) < 4 := by show ¬ (Cha.at64 b 8).toNat < 4; omega
            omega
          have h9 := HNb.out.sub4 (by omega)
          obtain ⟨b2, Hb2⟩ : ∃ x, Hd (b.set 8 (Cha.at64 b 8 - 4) = x) := ⟨_, ⟨rfl⟩⟩
          rw [Hb2.out] at h9
          have HN2 := hd h9
          have Lb2 := hd HN2.out.len
          have HV2 := hd (show v + 5 - 2 ^ 130 + (T + 1) * Cha.Q = v0 by
            have h1 := HV.out
            rw [Nat.succ_mul]
            have h3 : Cha.Q = 1361129467683753853853498429727072845819 := rfl
            omega)
          have bz2 := Cha.Blk.set64 bz 8 (Cha.at64 b 8 - 4)
          rw [Hb2.out] at bz2
          have H2 := H1.far hz 8 (.int .u64 ((n64 (Cha.at64 b 8 - 4) : Nat) : Int))
          clear htop hlow e8 h9 H1
          go_wp2_with (first
            | (refine wpl_load rfl 137 _ rfl ⟨z, 0, none⟩ rfl 9 Cha.agg9 (b2.map Cha.V64) (by rw [List.length_map, Lb2.out]) bz2.cells ?_)
            | (refine wpl_store rfl 137 _ _ rfl (w.heap.size) 0 (b2.map Cha.V64) rfl rfl 137 _ H2.ba (by rw [List.length_map, Lb2.out]; kernel_rfl) (by rw [List.length_map, Lb2.out, Cha.row64_size, La.out]; decide) (by simp [Cha.V64, Value.oneCell']) ?_; rw [splice_all _ _ (by rw [List.length_map, Lb2.out, Cha.row64_size, La.out])]; refine wpl_name (Rc.Ed w b2) (H2.put b2) ?_; clear H2 bz2 bz c8 f8; intro W6 H6))
          go_roundw
          case rel => exact ⟨T + 1, b2, _, by have := HT.out; omega, by go_num, HN2, HV2, H6⟩
          case measure => have := HT.out; simp [intOf]; omega
end Go.Proofs.Ytbcboldepghgpaa

