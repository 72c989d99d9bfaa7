/-
  The walk of record's Next, where a whole record is held.
-/
import Derived.Test.YtbcboldepghgpaaRecJ
import Derived.WalkMore
set_option linter.unusedVariables false
set_option linter.unusedSimpArgs false
set_option maxRecDepth 100000
namespace Go.Proofs.Ytbcboldepghgpaa
open Go.RowKit
namespace Rec
section
variable {P : Program} {w : World} {o : Oper} {ρ : Operand → Value} {x y z z' : Operand} {t e rt : TypeId}
theorem run_indexSl (ho : o.op = .indexAddr t x y) (ht : P.underlying t = some (.slice e)) (hs : (P.info? e).map (·.size) = some 1) (g k c i : Nat) (hx : ρ x = .slice (some ⟨g, 0, none⟩) k c) (hy : ρ y = .int .i64 (i : Int)) (hi : i < k) : (execOp ρ o).run P w = .ok (.value (.pointer (some ⟨g, i, none⟩))) w := by
  have h1 : (i : Int) < (k : Int) := by omega
  have h2 : (0 : Int) ≤ (i : Int) := by omega
  unfold execOp
  simp only [ho, hx, hy]
  simp [go_sem, Instr.indexAt, run_underlying ht, run_sizeOf hs, h1, h2, hi, asIntOf, Addr.add_lit]
theorem run_slice_max (ho : o.op = .slice t x (some y) (some z) (some z')) (ht : P.underlying t = some (.slice e)) (hs : (P.info? e).map (·.size) = some 1) (g k c lo hi : Nat)
    (hx : ρ x = .slice (some ⟨g, 0, none⟩) k c) (hy : ρ y = .int .i64 (lo : Int)) (hz : ρ z = .int .i64 (hi : Int)) (hz' : ρ z' = .int .i64 (hi : Int)) (h1 : lo < hi) (h2 : hi ≤ c) : (execOp ρ o).run P w = .ok (.value (.slice (some ⟨g, lo, none⟩) (hi - lo) (hi - lo))) w := by
  have e1 : (lo : Int) ≤ (hi : Int) := by omega
  have e2 : (hi : Int) ≤ (c : Int) := by omega
  have e3 : (0 : Int) ≤ (lo : Int) := by omega
  have e4 : ¬ hi = lo := by omega
  have e5 : lo ≤ hi := by omega
  unfold execOp
  simp only [ho, hx, hy, hz, hz']
  simp [go_sem, Instr.sliceAt, Instr.slice, Instr.sliceBounds, Instr.sliceBound, run_underlying ht, run_sizeOf hs, hy, hz, hz', e1, e2, e3, e4, e5, h2, asIntOf, Addr.add_lit]
theorem run_slice_maxM (ho : o.op = .slice t x (some y) (some z) (some z')) (ht : P.underlying t = some (.slice e)) (hs : (P.info? e).map (·.size) = some 1) (g k c lo hi m : Nat) (hm : hi - lo = m)
    (hx : ρ x = .slice (some ⟨g, 0, none⟩) k c) (hy : ρ y = .int .i64 (lo : Int)) (hz : ρ z = .int .i64 (hi : Int)) (hz' : ρ z' = .int .i64 (hi : Int)) (h1 : lo < hi) (h2 : hi ≤ c) : (execOp ρ o).run P w = .ok (.value (.slice (some ⟨g, lo, none⟩) m m)) w := by
  subst hm
  exact run_slice_max ho ht hs g k c lo hi hx hy hz hz' h1 h2
theorem run_u8int (ho : o.op = .convert 5 3 x) (v : UInt8) (hx : ρ x = .int .u8 ((n8 v : Nat) : Int)) : (execOp ρ o).run Try.prog w = .ok (.value (.int .i64 ((n8 v : Nat) : Int))) w := by
  have hv := n8_lt v
  have e : IntKind.i64.wrap ((n8 v : Nat) : Int) = ((n8 v : Nat) : Int) := IntWalk.i64_in _ (by omega)
  unfold execOp
  simp only [ho, hx]
  simp [go_sem, Try.underlying3, Try.underlying5, e]
theorem run_u8intM (ho : o.op = .convert 5 3 x) (v : UInt8) (m : Nat) (hm : n8 v = m) (hx : ρ x = .int .u8 ((n8 v : Nat) : Int)) : (execOp ρ o).run Try.prog w = .ok (.value (.int .i64 (m : Int))) w := by
  subst hm
  exact run_u8int ho v hx
theorem run_shl8 (ho : o.op = .binOp .shl t x y rt) (v : Nat) (hv : v ≤ 65536) (hx : ρ x = .int .i64 (v : Int)) (hy : ρ y = .int .u64 8) : (execOp ρ o).run P w = .ok (.value (.int .i64 ((256 * v : Nat) : Int))) w := by
  have e : IntKind.i64.wrap ((v : Int) * 256) = ((256 * v : Nat) : Int) := by
    rw [show (v : Int) * 256 = ((256 * v : Nat) : Int) by omega]
    exact IntWalk.i64_in _ (by omega)
  unfold execOp
  simp only [ho, hx, hy]
  simp [go_sem, Op.shift, e]
theorem or_low (u b : Nat) (hu : u < 65536) (hb : b < 256) : bits .or .i64 ((256 * u : Nat) : Int) (b : Int) = ((256 * u + b : Nat) : Int) := by
  have e2 : (BitVec.ofInt 64 ((256 * u : Nat) : Int) ||| BitVec.ofInt 64 (b : Int)).toNat = 256 * u + b := by
    rw [BitVec.ofInt_natCast, BitVec.ofInt_natCast, BitVec.toNat_or, BitVec.toNat_ofNat, BitVec.toNat_ofNat, Nat.mod_eq_of_lt (by omega), Nat.mod_eq_of_lt (by omega)]
    exact (Nat.two_pow_add_eq_or_of_lt (i := 8) hb u).symm
  show IntKind.i64.wrap (((BitVec.ofInt 64 ((256 * u : Nat) : Int) ||| BitVec.ofInt 64 (b : Int)).toNat : Nat) : Int) = _
  rw [e2]
  exact IntWalk.i64_in _ (by omega)
theorem run_orI (ho : o.op = .binOp .or t x y rt) (u b m : Nat) (hu : u < 65536) (hb : b < 256) (hm : 256 * u + b = m) (hx : ρ x = .int .i64 ((256 * u : Nat) : Int)) (hy : ρ y = .int .i64 (b : Int)) : (execOp ρ o).run P w = .ok (.value (.int .i64 (m : Int))) w := by
  have e := or_low u b hu hb
  subst hm
  unfold execOp
  simp only [ho, hx, hy]
  push_cast at e
  simp [go_sem]
  exact e
theorem run_addN (ho : o.op = .binOp .add t x y rt) (i j k : Nat) (hk : i + j = k) (hk2 : k ≤ 1000000) (hx : ρ x = .int .i64 (i : Int)) (hy : ρ y = .int .i64 (j : Int)) : (execOp ρ o).run P w = .ok (.value (.int .i64 (k : Int))) w := by
  have e : IntKind.i64.wrap ((i : Int) + (j : Int)) = (k : Int) := by
    rw [show (i : Int) + (j : Int) = (k : Int) by omega]
    exact IntWalk.i64_in _ (by omega)
  unfold execOp
  simp only [ho, hx, hy]
  simp [go_sem, e]
end
theorem enter_open (args : Array Value) (w : World) : (callFunc 11 args).run Try.prog w = .ok (.enter 11 args) w := by kernel_rfl
theorem na_u8 : ((Try.prog.underlying 5).map isAggD) = some false := by kernel_rfl
theorem na_lp : ((Try.prog.underlying 73).map isAggD) = some false := by kernel_rfl
/-- All is as it was, but three blocks. -/
structure M3 (w w' : World) (a b c : Nat) : Prop where
  os : w'.os = w.os
  tape : w'.tape = w.tape
  output : w'.output = w.output
  size : w.heap.size ≤ w'.heap.size
  block : ∀ i, i < w.heap.size → i ≠ a → i ≠ b → i ≠ c → w'.heap[i]? = w.heap[i]?
theorem M3.of_below {w w' : World} (a b c : Nat) (h : Below w.heap.size w w') : M3 w w' a b c := ⟨h.os, h.tape, h.output, h.size, fun i hi _ _ _ => h.block i hi⟩
theorem M3.grown {w w' w2 : World} {a b c : Nat} (h : M3 w w' a b c) (hg : w'.grownBy w2 (some b)) : M3 w w2 a b c :=
  ⟨hg.os.trans h.os, hg.tape.trans h.tape, hg.output.trans h.output, Nat.le_trans h.size hg.size, fun i hi h1 h2 h3 => (hg.block i (Nat.lt_of_lt_of_le hi h.size) (by intro e; injection e with e; exact h2 e)).trans (h.block i hi h1 h2 h3)⟩
theorem M3.set_ {w w' : World} {a b c : Nat} (h : M3 w w' a b c) (i : Nat) (u : Value) : M3 w (w'.setCell ⟨a, i, none⟩ u) a b c :=
  ⟨h.os, h.tape, h.output, by simpa using h.size, fun k hk h1 h2 h3 => (Below.heap_setCell w' ⟨a, i, none⟩ u k h1).trans (h.block k hk h1 h2 h3)⟩
theorem M3.next {w w' w2 : World} {a b c : Nat} (h : M3 w w' a b c) (hb : Below w'.heap.size w' w2) : M3 w w2 a b c :=
  ⟨hb.os.trans h.os, hb.tape.trans h.tape, hb.output.trans h.output, Nat.le_trans h.size hb.size, fun i hi h1 h2 h3 => (hb.block i (Nat.lt_of_lt_of_le hi h.size)).trans (h.block i hi h1 h2 h3)⟩
theorem M3.mv {w w' w2 : World} {a b c : Nat} (h : M3 w w' a b c) (hm : Mv w' w2 a (some c)) : M3 w w2 a b c :=
  ⟨hm.os.trans h.os, hm.tape.trans h.tape, hm.output.trans h.output, Nat.le_trans h.size hm.size, fun i hi h1 h2 h3 => (hm.block i (Nat.lt_of_lt_of_le hi h.size) h1 (by intro e; injection e with e; exact h3 e)).trans (h.block i hi h1 h2 h3)⟩
theorem M3.below {w w' : World} {a b c B : Nat} {w0 : World} (h : M3 w w' a b c) (hb : Below B w0 w) (ha : B ≤ a) (hb2 : B ≤ b) (hc : B ≤ c) (hs : B ≤ w.heap.size) : Below B w0 w' :=
  hb.trans ⟨h.os, h.tape, h.output, by have := h.size; omega, fun k hk => h.block k (by omega) (by omega) (by omega) (by omega)⟩
theorem rec_bytes (s : UInt16) (key iv : List UInt8) (seq : UInt64) (t : UInt8) (b rest : List UInt8) (pad : Nat) (M : Nat) (hM : (textOf b t pad).length + 16 = M) :
    nth (recOf s key iv seq t b pad ++ rest) 0 = 23 ∧ nth (recOf s key iv seq t b pad ++ rest) 3 = UInt8.ofNat (M / 256) ∧ nth (recOf s key iv seq t b pad ++ rest) 4 = UInt8.ofNat M ∧
    (recOf s key iv seq t b pad ++ rest).take 5 = hdr 23 M ∧ ((recOf s key iv seq t b pad ++ rest).drop 5).take M = sealOf s key (Suite.nonceOf iv seq) (hdr 23 M) (textOf b t pad) ∧ (recOf s key iv seq t b pad ++ rest).drop (5 + M) = rest := by
  have hl : (sealOf s key (Suite.nonceOf iv seq) (hdr 23 M) (textOf b t pad)).length = M := by rw [sealOf_len, hM]
  unfold recOf
  rw [hM, List.append_assoc]
  refine ⟨?_, ?_, ?_, ?_, ?_, ?_⟩
  · rw [nth_app_left _ _ _ (by rw [hdr_len]; omega)]; unfold hdr; rfl
  · rw [nth_app_left _ _ _ (by rw [hdr_len]; omega)]; unfold hdr; rfl
  · rw [nth_app_left _ _ _ (by rw [hdr_len]; omega)]; unfold hdr; rfl
  · exact List.take_left' (hdr_len _ _)
  · rw [List.drop_left' (hdr_len _ _)]; exact List.take_left' hl
  · rw [← List.append_assoc]; exact List.drop_left' (by rw [List.length_append, hdr_len, hl])
end Rec
theorem Rec.own_cell {W : World} {g k c B : Nat} {h : List UInt8} (ho : OwnB W B (.slice (some ⟨g, 0, none⟩) k c) h) (i : Nat) (hi : i < k) : W.cell? ⟨g, i, none⟩ = some (.int .u8 ((n8 (nth h i) : Nat) : Int)) := by
  have hl : h.length = k := by have := ho.reads_any.1; omega
  subst hl
  exact ho.cell i hi
theorem Rec.n8_small (i : Nat) (h : i < 256) : n8 (UInt8.ofNat i) = i := by
  show (UInt8.ofNat i).toNat = i
  rw [UInt8.toNat_ofNat']
  exact Nat.mod_eq_of_lt h
set_option maxHeartbeats 16000000 in
set_option maxRecDepth 100000 in
theorem Rec.next_T (n0 : Nat) (s : UInt16) (hs : Suite.Ok s n0) (Ak : Option Addr) (ck : Nat) (key iv : List UInt8) (hk : key.length = n0) (seq : UInt64) (hseq : (seq + 1 == 0) = false) (gr gl g k c : Nat) (skip : Int) (quiet : Bool) (t : UInt8) (b rest : List UInt8) (n pad R : Nat) (w : World)
    (hrd : Rec.RdAt w gr gl (.slice (some ⟨g, 0, none⟩) k c) skip quiet s Ak ck key iv seq) (ho : OwnB w 0 (.slice (some ⟨g, 0, none⟩) k c) (Rec.recOf s key iv seq t b pad ++ rest)) (hkk : k ≤ 16645) (hn : b.length = n) (hn2 : n ≤ 16384) (hp : pad ≤ 255) (hR : R = min pad (16384 - n)) (ht0 : (t == 0) = false) (htc : t = 23 ∨ (0 < n ∧ (t = 21 ∨ t = 22))) (hkg : (Value.slice Ak key.length ck).ownBlock ≠ some g) (hq : 16384 < n + 1 + R + 16) :
    Calls Try.prog 24 #[.pointer (some ⟨gr, 0, none⟩)] w fun e w' => ∃ A2, e = .returned (.tuple #[.int .u8 ((n8 t : Nat) : Int), .slice A2 n n, .bool true, .int .i64 0]) ∧ ReadsB w' w'.heap.size A2 n b ∧ Rec.RdAt w' gr gl (.slice (some ⟨g, 0, none⟩) (k - (5 + (n + 1 + R + 16))) c) 0 quiet s Ak ck key iv (seq + 1) ∧ OwnB w' 0 (.slice (some ⟨g, 0, none⟩) (k - (5 + (n + 1 + R + 16))) c) rest ∧ Rec.M3 w w' gr g gl := by
  have Hs := hd hs
  have Hk := hd hk
  have Htc := hd htc
  have Ht0 := hd ht0
  have Hseq := hd hseq
  have Hsz := hd (show n ≤ 16384 ∧ R ≤ 255 ∧ k ≤ 16645 by omega)
  have Hn := hd hn
  obtain ⟨tx, Htx⟩ : ∃ x, Hd (Rec.textOf b t pad = x) := ⟨_, ⟨rfl⟩⟩
  have Ltx := hd (show tx.length = n + 1 + R by rw [← Htx.out, Rec.textOf_len, hn, ← hR])
  have Htx2 := hd (show tx = b ++ [t] ++ List.replicate R 0 by rw [← Htx.out, hR, ← hn]; unfold Rec.textOf; rfl)
  obtain ⟨M, HM⟩ : ∃ x, Hd (n + 1 + R + 16 = x) := ⟨_, ⟨rfl⟩⟩
  have HMl := hd (show M ≤ 16656 ∧ 16 < M by have := HM.out; have := Hsz.out; omega)
  have HM4 := hd (show M ≤ 16640 by have := HM.out; omega)
  obtain ⟨j, Hj⟩ : ∃ x, Hd (5 + M = x) := ⟨_, ⟨rfl⟩⟩
  obtain ⟨h, Hh⟩ : ∃ x, Hd (Rec.recOf s key iv seq t b pad ++ rest = x) := ⟨_, ⟨rfl⟩⟩
  obtain ⟨b0, b3, b4, hhd, hbd, hrs⟩ := Rec.rec_bytes s key iv seq t b rest pad M (by rw [Htx.out, Ltx.out, HM.out])
  rw [Hh.out] at b0 b3 b4 hhd hbd hrs ho
  rw [Htx.out] at hbd
  have Hlen := hd (show h.length = k by have := ho.reads_any.1; omega)
  have Hjk := hd (show j ≤ k by
    have h1 : (Rec.recOf s key iv seq t b pad ++ rest).length = k := by rw [Hh.out]; exact Hlen.out
    rw [List.length_append, Rec.recOf_len, hn, ← hR] at h1
    have := Hj.out; have := HM.out; omega)
  obtain ⟨head, Hhead⟩ : ∃ x, Hd (Rec.hdr 23 M = x) := ⟨_, ⟨rfl⟩⟩
  obtain ⟨nc, Hnc⟩ : ∃ x, Hd (Suite.nonceOf iv seq = x) := ⟨_, ⟨rfl⟩⟩
  have Lnc := hd (show nc.length = 12 by rw [← Hnc.out, Suite.nonce_len, hrd.lk.iv12])
  obtain ⟨sd, Hsd⟩ : ∃ x, Hd (Rec.sealOf s key nc head tx = x) := ⟨_, ⟨rfl⟩⟩
  have Hopen := hd (show Rec.openOf s key nc head sd = some tx by rw [← Hsd.out]; exact Rec.open_seal _ _ _ _ _)
  have Hb0 := hd b0
  have Hb3 := hd b3
  have Hb4 := hd b4
  have Hhd := hd (show h.take 5 = head by rw [hhd, Hhead.out])
  have Hbd := hd (show (h.drop 5).take M = sd by rw [hbd, Hhead.out, Hnc.out, Hsd.out])
  have Hrs := hd (show h.drop j = rest by rw [← Hj.out]; exact hrs)
  have hroom := ho.room
  have Hown := hd ho
  clear ho hs hk htc ht0 hseq b0 b3 b4 hhd hbd hrs hp hR
  have hqM := hd hq
  clear hq
  rw [HM.out] at hqM ⊢
  rw [Hj.out]
  have c4 : w.cell? ⟨gr, 4, none⟩ = some (.int .i64 0) := hrd.br.cell 4
  have c1 : w.cell? ⟨gr, 1, none⟩ = some (.slice (some ⟨g, 0, none⟩) k c) := hrd.br.cell 1
  have t5 : (5 : Int) ≤ (k : Int) := by have := Hjk.out; have := Hj.out; omega
  go_enter Try.func24, Try.ntmps24
  go_wp2
  go_step3
  go_wp2
  go_step3
  go_wp2
  refine wp_loop_rounds 1 ?_
  rw [rounds_succ]
  go_wp2
  refine p_start (fun W => Rec.RdAt W gr gl (.slice (some ⟨g, 0, none⟩) k c) skip quiet s Ak ck key iv seq ∧ OwnB W 0 (.slice (some ⟨g, 0, none⟩) k c) h ∧ Below w.heap.size w W) (by kernel_rfl) ⟨hrd.next (Below.refl _ _).drew, Hown.out.drew, (Below.refl _ _).drew⟩ ?_
  clear c4 c1
  refine p_take 0 (o := _) rfl (by kernel_rfl) (by kernel_rfl) (by kernel_rfl) (wanted_plain rfl) (.pointer (some ⟨gr, 0, none⟩)) (fun _ _ _ h => h) (fun W hW => run_move (by rfl) (by simp [Act.eval]) W) ?_
  simp only [Act.put, List.getElem_toArray, List.getElem_cons_succ, List.getElem_cons_zero, List.setIfInBounds_toArray, List.set_cons_zero, List.set_cons_succ]
  refine p_take 1 (o := _) rfl (by kernel_rfl) (by kernel_rfl) (by kernel_rfl) (wanted_plain rfl) (.pointer (some ⟨gr, 0, none⟩)) (fun _ _ _ h => h) (fun W hW => Rec.run_nilCheck' (by rfl) (by simp [Act.eval])) ?_
  simp only [Act.put, List.getElem_toArray, List.getElem_cons_succ, List.getElem_cons_zero, List.setIfInBounds_toArray, List.set_cons_zero, List.set_cons_succ]
  refine p_take 2 (o := _) rfl (by kernel_rfl) (by kernel_rfl) (by kernel_rfl) (wanted_plain rfl) (.pointer (some ⟨gr, 1, none⟩)) (fun _ _ _ h => h) (fun W hW => run_fieldAddr (by rfl) (by simp [Act.eval]) (Rec.fieldR gr 1 (by omega))) ?_
  simp only [Act.put, List.getElem_toArray, List.getElem_cons_succ, List.getElem_cons_zero, List.setIfInBounds_toArray, List.set_cons_zero, List.set_cons_succ]
  refine p_take 3 (o := _) rfl (by kernel_rfl) (by kernel_rfl) (by kernel_rfl) (wanted_plain rfl) (.slice (some ⟨g, 0, none⟩) k c) (fun _ _ _ h => h) (fun W hW => Rec.run_load_c Rec.na_bytes (by rfl) _ _ (by simp [Act.eval]) (hW.1.br.cell 1)) ?_
  simp only [Act.put, List.getElem_toArray, List.getElem_cons_succ, List.getElem_cons_zero, List.setIfInBounds_toArray, List.set_cons_zero, List.set_cons_succ]
  refine p_take 4 (o := _) rfl (by kernel_rfl) (by kernel_rfl) (by kernel_rfl) (wanted_plain rfl) (.pointer (some ⟨g, 0, none⟩)) (fun _ _ _ h => h) (fun W hW => Rec.run_indexSl (by rfl) Try.underlying24 u8_cell1 g k c 0 (by simp [Act.eval]) (by simp [Act.eval]) (by have := Hjk.out; have := Hj.out; omega)) ?_
  simp only [Act.put, List.getElem_toArray, List.getElem_cons_succ, List.getElem_cons_zero, List.setIfInBounds_toArray, List.set_cons_zero, List.set_cons_succ]
  refine p_take 5 (o := _) rfl (by kernel_rfl) (by kernel_rfl) (by kernel_rfl) (wanted_plain rfl) (.int .u8 23) (fun _ _ _ h => h) (fun W hW => Rec.run_load_c Rec.na_u8 (by rfl) ⟨g, 0, none⟩ (.int .u8 23) (by simp [Act.eval]) (by have h1 := Rec.own_cell hW.2.1 0 (by have := Hjk.out; have := Hj.out; omega); rw [Hb0.out] at h1; exact h1)) ?_
  simp only [Act.put, List.getElem_toArray, List.getElem_cons_succ, List.getElem_cons_zero, List.setIfInBounds_toArray, List.set_cons_zero, List.set_cons_succ]
  refine p_take 6 (o := _) rfl (by kernel_rfl) (by kernel_rfl) (by kernel_rfl) (wanted_plain rfl) (.pointer (some ⟨gr, 0, none⟩)) (fun _ _ _ h => h) (fun W hW => run_move (by rfl) (by simp [Act.eval]) W) ?_
  simp only [Act.put, List.getElem_toArray, List.getElem_cons_succ, List.getElem_cons_zero, List.setIfInBounds_toArray, List.set_cons_zero, List.set_cons_succ]
  refine p_take 7 (o := _) rfl (by kernel_rfl) (by kernel_rfl) (by kernel_rfl) (wanted_plain rfl) (.pointer (some ⟨gr, 0, none⟩)) (fun _ _ _ h => h) (fun W hW => Rec.run_nilCheck' (by rfl) (by simp [Act.eval])) ?_
  simp only [Act.put, List.getElem_toArray, List.getElem_cons_succ, List.getElem_cons_zero, List.setIfInBounds_toArray, List.set_cons_zero, List.set_cons_succ]
  refine p_take 8 (o := _) rfl (by kernel_rfl) (by kernel_rfl) (by kernel_rfl) (wanted_plain rfl) (.pointer (some ⟨gr, 1, none⟩)) (fun _ _ _ h => h) (fun W hW => run_fieldAddr (by rfl) (by simp [Act.eval]) (Rec.fieldR gr 1 (by omega))) ?_
  simp only [Act.put, List.getElem_toArray, List.getElem_cons_succ, List.getElem_cons_zero, List.setIfInBounds_toArray, List.set_cons_zero, List.set_cons_succ]
  refine p_take 9 (o := _) rfl (by kernel_rfl) (by kernel_rfl) (by kernel_rfl) (wanted_plain rfl) (.slice (some ⟨g, 0, none⟩) k c) (fun _ _ _ h => h) (fun W hW => Rec.run_load_c Rec.na_bytes (by rfl) _ _ (by simp [Act.eval]) (hW.1.br.cell 1)) ?_
  simp only [Act.put, List.getElem_toArray, List.getElem_cons_succ, List.getElem_cons_zero, List.setIfInBounds_toArray, List.set_cons_zero, List.set_cons_succ]
  refine p_take 10 (o := _) rfl (by kernel_rfl) (by kernel_rfl) (by kernel_rfl) (wanted_plain rfl) (.pointer (some ⟨g, 3, none⟩)) (fun _ _ _ h => h) (fun W hW => Rec.run_indexSl (by rfl) Try.underlying24 u8_cell1 g k c 3 (by simp [Act.eval]) (by simp [Act.eval]) (by have := Hjk.out; have := Hj.out; omega)) ?_
  simp only [Act.put, List.getElem_toArray, List.getElem_cons_succ, List.getElem_cons_zero, List.setIfInBounds_toArray, List.set_cons_zero, List.set_cons_succ]
  refine p_take 11 (o := _) rfl (by kernel_rfl) (by kernel_rfl) (by kernel_rfl) (wanted_plain rfl) (.int .u8 ((n8 (UInt8.ofNat (M / 256)) : Nat) : Int)) (fun _ _ _ h => h) (fun W hW => Rec.run_load_c Rec.na_u8 (by rfl) ⟨g, 3, none⟩ (.int .u8 ((n8 (UInt8.ofNat (M / 256)) : Nat) : Int)) (by simp [Act.eval]) (by have h1 := Rec.own_cell hW.2.1 3 (by have := Hjk.out; have := Hj.out; omega); rw [Hb3.out] at h1; exact h1)) ?_
  simp only [Act.put, List.getElem_toArray, List.getElem_cons_succ, List.getElem_cons_zero, List.setIfInBounds_toArray, List.set_cons_zero, List.set_cons_succ]
  refine p_take 12 (o := _) rfl (by kernel_rfl) (by kernel_rfl) (by kernel_rfl) (wanted_plain rfl) (.int .i64 ((M / 256 : Nat) : Int)) (fun _ _ _ h => h) (fun W hW => Rec.run_u8intM (by rfl) (UInt8.ofNat (M / 256)) (M / 256) (Rec.n8_small _ (by have := HMl.out; omega)) (by simp [Act.eval])) ?_
  simp only [Act.put, List.getElem_toArray, List.getElem_cons_succ, List.getElem_cons_zero, List.setIfInBounds_toArray, List.set_cons_zero, List.set_cons_succ]
  refine p_take 13 (o := _) rfl (by kernel_rfl) (by kernel_rfl) (by kernel_rfl) (wanted_plain rfl) (.int .i64 ((256 * (M / 256) : Nat) : Int)) (fun _ _ _ h => h) (fun W hW => Rec.run_shl8 (by rfl) (M / 256) (by have := HMl.out; omega) (by simp [Act.eval]) (by simp [Act.eval])) ?_
  simp only [Act.put, List.getElem_toArray, List.getElem_cons_succ, List.getElem_cons_zero, List.setIfInBounds_toArray, List.set_cons_zero, List.set_cons_succ]
  refine p_take 14 (o := _) rfl (by kernel_rfl) (by kernel_rfl) (by kernel_rfl) (wanted_plain rfl) (.pointer (some ⟨gr, 0, none⟩)) (fun _ _ _ h => h) (fun W hW => run_move (by rfl) (by simp [Act.eval]) W) ?_
  simp only [Act.put, List.getElem_toArray, List.getElem_cons_succ, List.getElem_cons_zero, List.setIfInBounds_toArray, List.set_cons_zero, List.set_cons_succ]
  refine p_take 15 (o := _) rfl (by kernel_rfl) (by kernel_rfl) (by kernel_rfl) (wanted_plain rfl) (.pointer (some ⟨gr, 0, none⟩)) (fun _ _ _ h => h) (fun W hW => Rec.run_nilCheck' (by rfl) (by simp [Act.eval])) ?_
  simp only [Act.put, List.getElem_toArray, List.getElem_cons_succ, List.getElem_cons_zero, List.setIfInBounds_toArray, List.set_cons_zero, List.set_cons_succ]
  refine p_take 16 (o := _) rfl (by kernel_rfl) (by kernel_rfl) (by kernel_rfl) (wanted_plain rfl) (.pointer (some ⟨gr, 1, none⟩)) (fun _ _ _ h => h) (fun W hW => run_fieldAddr (by rfl) (by simp [Act.eval]) (Rec.fieldR gr 1 (by omega))) ?_
  simp only [Act.put, List.getElem_toArray, List.getElem_cons_succ, List.getElem_cons_zero, List.setIfInBounds_toArray, List.set_cons_zero, List.set_cons_succ]
  refine p_take 17 (o := _) rfl (by kernel_rfl) (by kernel_rfl) (by kernel_rfl) (wanted_plain rfl) (.slice (some ⟨g, 0, none⟩) k c) (fun _ _ _ h => h) (fun W hW => Rec.run_load_c Rec.na_bytes (by rfl) _ _ (by simp [Act.eval]) (hW.1.br.cell 1)) ?_
  simp only [Act.put, List.getElem_toArray, List.getElem_cons_succ, List.getElem_cons_zero, List.setIfInBounds_toArray, List.set_cons_zero, List.set_cons_succ]
  refine p_take 18 (o := _) rfl (by kernel_rfl) (by kernel_rfl) (by kernel_rfl) (wanted_plain rfl) (.pointer (some ⟨g, 4, none⟩)) (fun _ _ _ h => h) (fun W hW => Rec.run_indexSl (by rfl) Try.underlying24 u8_cell1 g k c 4 (by simp [Act.eval]) (by simp [Act.eval]) (by have := Hjk.out; have := Hj.out; omega)) ?_
  simp only [Act.put, List.getElem_toArray, List.getElem_cons_succ, List.getElem_cons_zero, List.setIfInBounds_toArray, List.set_cons_zero, List.set_cons_succ]
  refine p_take 19 (o := _) rfl (by kernel_rfl) (by kernel_rfl) (by kernel_rfl) (wanted_plain rfl) (.int .u8 ((n8 (UInt8.ofNat M) : Nat) : Int)) (fun _ _ _ h => h) (fun W hW => Rec.run_load_c Rec.na_u8 (by rfl) ⟨g, 4, none⟩ (.int .u8 ((n8 (UInt8.ofNat M) : Nat) : Int)) (by simp [Act.eval]) (by have h1 := Rec.own_cell hW.2.1 4 (by have := Hjk.out; have := Hj.out; omega); rw [Hb4.out] at h1; exact h1)) ?_
  simp only [Act.put, List.getElem_toArray, List.getElem_cons_succ, List.getElem_cons_zero, List.setIfInBounds_toArray, List.set_cons_zero, List.set_cons_succ]
  refine p_take 20 (o := _) rfl (by kernel_rfl) (by kernel_rfl) (by kernel_rfl) (wanted_plain rfl) (.int .i64 ((M % 256 : Nat) : Int)) (fun _ _ _ h => h) (fun W hW => Rec.run_u8intM (by rfl) (UInt8.ofNat M) (M % 256) UInt8.toNat_ofNat' (by simp [Act.eval])) ?_
  simp only [Act.put, List.getElem_toArray, List.getElem_cons_succ, List.getElem_cons_zero, List.setIfInBounds_toArray, List.set_cons_zero, List.set_cons_succ]
  refine p_take 21 (o := _) rfl (by kernel_rfl) (by kernel_rfl) (by kernel_rfl) (wanted_plain rfl) (.int .i64 (M : Int)) (fun _ _ _ h => h) (fun W hW => Rec.run_orI (by rfl) (M / 256) (M % 256) M (by have := HMl.out; omega) (by omega) (by omega) (by simp [Act.eval]) (by simp [Act.eval])) ?_
  simp only [Act.put, List.getElem_toArray, List.getElem_cons_succ, List.getElem_cons_zero, List.setIfInBounds_toArray, List.set_cons_zero, List.set_cons_succ]
  refine p_take 22 (o := _) rfl (by kernel_rfl) (by kernel_rfl) (by kernel_rfl) (wanted_plain rfl) (.int .u8 23) (fun _ _ _ h => h) (fun W hW => run_assign (by rfl) (by simp [Act.eval]) W) ?_
  simp only [Act.put, List.getElem_toArray, List.getElem_cons_succ, List.getElem_cons_zero, List.setIfInBounds_toArray, List.set_cons_zero, List.set_cons_succ]
  refine p_take 23 (o := _) rfl (by kernel_rfl) (by kernel_rfl) (by kernel_rfl) (wanted_plain rfl) (.int .i64 (M : Int)) (fun _ _ _ h => h) (fun W hW => run_assign (by rfl) (by simp [Act.eval]) W) ?_
  simp only [Act.put, List.getElem_toArray, List.getElem_cons_succ, List.getElem_cons_zero, List.setIfInBounds_toArray, List.set_cons_zero, List.set_cons_succ]
  refine (show ∀ z0, wpAnyV _ _ _ _ _ _ z0 _ _ _ from fun z0 => p_done (by kernel_rfl) (fun W1 H1 => ?_) z0) _
  have c1 : W1.cell? ⟨gr, 1, none⟩ = some (.slice (some ⟨g, 0, none⟩) k c) := H1.1.br.cell 1
  have t6 : ¬ (16640 : Int) < (M : Int) := by have := HM4.out; omega
  have t7 : (16384 : Int) < (M : Int) := by have := hqM.out; omega
  have e8 : (5 : Int) + (M : Int) = (j : Int) := by have := Hj.out; omega
  have w8 : IntKind.i64.wrap (j : Int) = (j : Int) := IntWalk.i64_in _ (by have := Hj.out; have := HMl.out; omega)
  have t9 : ¬ (k : Int) < (j : Int) := by have := Hjk.out; omega
  go_wp2
  refine p_start (fun W => ((Rec.RdAt W gr gl (.slice (some ⟨g, 0, none⟩) k c) skip quiet s Ak ck key iv seq ∧ OwnB W 0 (.slice (some ⟨g, 0, none⟩) k c) h) ∧ Below w.heap.size w W)) (by kernel_rfl) ⟨⟨H1.1.next (Below.refl _ _).drew, H1.2.1.drew⟩, H1.2.2.drew⟩ ?_
  clear H1 c1
  refine p_take 0 (o := _) rfl (by kernel_rfl) (by kernel_rfl) (by kernel_rfl) (wanted_plain rfl) (.pointer (some ⟨gr, 0, none⟩)) (fun _ _ _ h => h) (fun W hW => run_move (by rfl) (by simp [Act.eval]) W) ?_
  simp only [Act.put, List.getElem_toArray, List.getElem_cons_succ, List.getElem_cons_zero, List.setIfInBounds_toArray, List.set_cons_zero, List.set_cons_succ]
  refine p_take 1 (o := _) rfl (by kernel_rfl) (by kernel_rfl) (by kernel_rfl) (wanted_plain rfl) (.pointer (some ⟨gr, 0, none⟩)) (fun _ _ _ h => h) (fun W hW => Rec.run_nilCheck' (by rfl) (by simp [Act.eval])) ?_
  simp only [Act.put, List.getElem_toArray, List.getElem_cons_succ, List.getElem_cons_zero, List.setIfInBounds_toArray, List.set_cons_zero, List.set_cons_succ]
  refine p_take 2 (o := _) rfl (by kernel_rfl) (by kernel_rfl) (by kernel_rfl) (wanted_plain rfl) (.pointer (some ⟨gr, 1, none⟩)) (fun _ _ _ h => h) (fun W hW => run_fieldAddr (by rfl) (by simp [Act.eval]) (Rec.fieldR gr 1 (by omega))) ?_
  simp only [Act.put, List.getElem_toArray, List.getElem_cons_succ, List.getElem_cons_zero, List.setIfInBounds_toArray, List.set_cons_zero, List.set_cons_succ]
  refine p_take 3 (o := _) rfl (by kernel_rfl) (by kernel_rfl) (by kernel_rfl) (wanted_plain rfl) (.slice (some ⟨g, 0, none⟩) k c) (fun _ _ _ h => h) (fun W hW => Rec.run_load_c Rec.na_bytes (by rfl) _ _ (by simp [Act.eval]) (hW.1.1.br.cell 1)) ?_
  simp only [Act.put, List.getElem_toArray, List.getElem_cons_succ, List.getElem_cons_zero, List.setIfInBounds_toArray, List.set_cons_zero, List.set_cons_succ]
  refine p_take 4 (o := _) rfl (by kernel_rfl) (by kernel_rfl) (by kernel_rfl) (wanted_plain rfl) (.slice (some ⟨g, 0, none⟩) 5 5) (fun _ _ _ h => h) (fun W hW => run_slice_tom (by rfl) Try.underlying24 u8_cell1 (some ⟨g, 0, none⟩) k c 5 (by simp [Act.eval]) (by simp [Act.eval]) (by simp [Act.eval]) (by have := Hjk.out; have := Hj.out; omega)) ?_
  simp only [Act.put, List.getElem_toArray, List.getElem_cons_succ, List.getElem_cons_zero, List.setIfInBounds_toArray, List.set_cons_zero, List.set_cons_succ]
  refine p_take 6 (o := _) rfl (by kernel_rfl) (by kernel_rfl) (by kernel_rfl) (wanted_plain rfl) (.pointer (some ⟨gr, 0, none⟩)) (fun _ _ _ h => h) (fun W hW => run_move (by rfl) (by simp [Act.eval]) W) ?_
  simp only [Act.put, List.getElem_toArray, List.getElem_cons_succ, List.getElem_cons_zero, List.setIfInBounds_toArray, List.set_cons_zero, List.set_cons_succ]
  refine p_take 7 (o := _) rfl (by kernel_rfl) (by kernel_rfl) (by kernel_rfl) (wanted_plain rfl) (.pointer (some ⟨gr, 0, none⟩)) (fun _ _ _ h => h) (fun W hW => Rec.run_nilCheck' (by rfl) (by simp [Act.eval])) ?_
  simp only [Act.put, List.getElem_toArray, List.getElem_cons_succ, List.getElem_cons_zero, List.setIfInBounds_toArray, List.set_cons_zero, List.set_cons_succ]
  refine p_take 8 (o := _) rfl (by kernel_rfl) (by kernel_rfl) (by kernel_rfl) (wanted_plain rfl) (.pointer (some ⟨gr, 1, none⟩)) (fun _ _ _ h => h) (fun W hW => run_fieldAddr (by rfl) (by simp [Act.eval]) (Rec.fieldR gr 1 (by omega))) ?_
  simp only [Act.put, List.getElem_toArray, List.getElem_cons_succ, List.getElem_cons_zero, List.setIfInBounds_toArray, List.set_cons_zero, List.set_cons_succ]
  refine p_take 9 (o := _) rfl (by kernel_rfl) (by kernel_rfl) (by kernel_rfl) (wanted_plain rfl) (.slice (some ⟨g, 0, none⟩) k c) (fun _ _ _ h => h) (fun W hW => Rec.run_load_c Rec.na_bytes (by rfl) _ _ (by simp [Act.eval]) (hW.1.1.br.cell 1)) ?_
  simp only [Act.put, List.getElem_toArray, List.getElem_cons_succ, List.getElem_cons_zero, List.setIfInBounds_toArray, List.set_cons_zero, List.set_cons_succ]
  refine p_take 10 (o := _) rfl (by kernel_rfl) (by kernel_rfl) (by kernel_rfl) (wanted_plain rfl) (.int .i64 (M : Int)) (fun _ _ _ h => h) (fun W hW => run_move (by rfl) (by simp [Act.eval]) W) ?_
  simp only [Act.put, List.getElem_toArray, List.getElem_cons_succ, List.getElem_cons_zero, List.setIfInBounds_toArray, List.set_cons_zero, List.set_cons_succ]
  refine p_take 11 (o := _) rfl (by kernel_rfl) (by kernel_rfl) (by kernel_rfl) (wanted_plain rfl) (.int .i64 (j : Int)) (fun _ _ _ h => h) (fun W hW => Rec.run_addN (by rfl) 5 M j Hj.out (by have := Hj.out; have := HMl.out; omega) (by simp [Act.eval]) (by simp [Act.eval])) ?_
  simp only [Act.put, List.getElem_toArray, List.getElem_cons_succ, List.getElem_cons_zero, List.setIfInBounds_toArray, List.set_cons_zero, List.set_cons_succ]
  refine p_take 12 (o := _) rfl (by kernel_rfl) (by kernel_rfl) (by kernel_rfl) (wanted_plain rfl) (.int .i64 (M : Int)) (fun _ _ _ h => h) (fun W hW => run_move (by rfl) (by simp [Act.eval]) W) ?_
  simp only [Act.put, List.getElem_toArray, List.getElem_cons_succ, List.getElem_cons_zero, List.setIfInBounds_toArray, List.set_cons_zero, List.set_cons_succ]
  refine p_take 13 (o := _) rfl (by kernel_rfl) (by kernel_rfl) (by kernel_rfl) (wanted_plain rfl) (.int .i64 (j : Int)) (fun _ _ _ h => h) (fun W hW => Rec.run_addN (by rfl) 5 M j Hj.out (by have := Hj.out; have := HMl.out; omega) (by simp [Act.eval]) (by simp [Act.eval])) ?_
  simp only [Act.put, List.getElem_toArray, List.getElem_cons_succ, List.getElem_cons_zero, List.setIfInBounds_toArray, List.set_cons_zero, List.set_cons_succ]
  refine p_take 14 (o := _) rfl (by kernel_rfl) (by kernel_rfl) (by kernel_rfl) (wanted_plain rfl) (.slice (some ⟨g, 5, none⟩) M M) (fun _ _ _ h => h) (fun W hW => Rec.run_slice_maxM (by rfl) Try.underlying24 u8_cell1 g k c 5 j M (by have := Hj.out; omega) (by simp [Act.eval]) (by simp [Act.eval]) (by simp [Act.eval]) (by simp [Act.eval]) (by have := Hj.out; have := HMl.out; omega) (by have := Hjk.out; omega)) ?_
  simp only [Act.put, List.getElem_toArray, List.getElem_cons_succ, List.getElem_cons_zero, List.setIfInBounds_toArray, List.set_cons_zero, List.set_cons_succ]
  refine p_one 5 (by kernel_rfl) (fun W hW _ => ?_)
  have r5 : ReadsB W W.heap.size (some ⟨g, 0, none⟩) 5 head := by rw [← Hhd.out]; exact hW.1.2.reads_any.2.take (by have := Hjk.out; have := Hj.out; omega)
  refine op_call (o := _) rfl (wanted_plain rfl) 41 _ _ rfl #[.slice (some ⟨g, 0, none⟩) 5 5] (by simp [Act.eval]) (Rec.enter_clone _) ?_
  refine (cloneB_any (some ⟨g, 0, none⟩) 5 5 head W r5 (by omega)).mono ?_
  rintro e W5 ⟨v8, rfl, own8, hE⟩
  obtain ⟨A8, c8, e8'⟩ := own8.slice
  rw [show head.length = 5 by rw [← Hhead.out]; exact Rec.hdr_len _ _] at e8'
  subst e8'
  refine ⟨_, rfl, Next.mk (fun W => ((Rec.RdAt W gr gl (.slice (some ⟨g, 0, none⟩) k c) skip quiet s Ak ck key iv seq ∧ OwnB W 0 (.slice (some ⟨g, 0, none⟩) k c) h) ∧ Below w.heap.size w W) ∧ OwnB W w.heap.size (.slice A8 5 c8) head) (fun _ => True) (fun _ h => h.1) ⟨⟨⟨hW.1.1.next hE, hW.1.2.later hE⟩, hW.2.trans (hE.mono hW.2.size)⟩, own8.low hW.2.size⟩ trivial ?_⟩
  clear hE hW own8 r5
  simp only [Act.put, List.getElem_toArray, List.getElem_cons_succ, List.getElem_cons_zero, List.setIfInBounds_toArray, List.set_cons_zero, List.set_cons_succ]
  refine p_one 15 (by kernel_rfl) (fun W hW _ => ?_)
  have rM : ReadsB W W.heap.size (some ⟨g, 5, none⟩) M sd := by
    have h1 := hW.1.1.2.reads_any.2.drop (k := 5) (c := c) (by have := Hjk.out; have := Hj.out; omega) hroom
    rw [if_neg (by have := Hjk.out; have := Hj.out; have := HMl.out; omega)] at h1
    have h2 := h1.take (k := M) (by have := Hjk.out; have := Hj.out; omega)
    rw [Hbd.out] at h2
    have e : (Option.map (fun x : Addr => x.add 5) (some ⟨g, 0, none⟩)) = some ⟨g, 5, none⟩ := by rw [Option.map_some, Addr.add_lit]
    rw [e] at h2
    exact h2
  refine op_call (o := _) rfl (wanted_plain rfl) 41 _ _ rfl #[.slice (some ⟨g, 5, none⟩) M M] (by simp [Act.eval]) (Rec.enter_clone _) ?_
  refine (cloneB_any (some ⟨g, 5, none⟩) M M sd W rM (by have := HMl.out; omega)).mono ?_
  rintro e W5 ⟨v9, rfl, own9, hE⟩
  obtain ⟨A9, c9, e9'⟩ := own9.slice
  rw [show sd.length = M by have := rM.len; exact this] at e9'
  subst e9'
  refine ⟨_, rfl, Next.mk (fun W => ((Rec.RdAt W gr gl (.slice (some ⟨g, 0, none⟩) k c) skip quiet s Ak ck key iv seq ∧ OwnB W 0 (.slice (some ⟨g, 0, none⟩) k c) h) ∧ Below w.heap.size w W) ∧ OwnB W w.heap.size (.slice A8 5 c8) head ∧ OwnB W w.heap.size (.slice A9 M c9) sd) (fun _ => True) (fun _ h => ⟨h.1, h.2.1⟩) ⟨⟨⟨hW.1.1.1.next hE, hW.1.1.2.later hE⟩, hW.1.2.trans (hE.mono hW.1.2.size)⟩, hW.2.later hE, own9.low hW.1.2.size⟩ trivial ?_⟩
  clear hE hW own9 rM
  simp only [Act.put, List.getElem_toArray, List.getElem_cons_succ, List.getElem_cons_zero, List.setIfInBounds_toArray, List.set_cons_zero, List.set_cons_succ]
  refine p_take 16 (o := _) rfl (by kernel_rfl) (by kernel_rfl) (by kernel_rfl) (wanted_plain rfl) (.slice A8 5 c8) (fun _ _ _ h => h) (fun W hW => run_assign (by rfl) (by simp [Act.eval]) W) ?_
  simp only [Act.put, List.getElem_toArray, List.getElem_cons_succ, List.getElem_cons_zero, List.setIfInBounds_toArray, List.set_cons_zero, List.set_cons_succ]
  refine p_take 17 (o := _) rfl (by kernel_rfl) (by kernel_rfl) (by kernel_rfl) (wanted_plain rfl) (.slice A9 M c9) (fun _ _ _ h => h) (fun W hW => run_assign (by rfl) (by simp [Act.eval]) W) ?_
  simp only [Act.put, List.getElem_toArray, List.getElem_cons_succ, List.getElem_cons_zero, List.setIfInBounds_toArray, List.set_cons_zero, List.set_cons_succ]
  refine (show ∀ z0, wpAnyV _ _ _ _ _ _ z0 _ _ _ from fun z0 => p_done (by kernel_rfl) (fun W1 H1 => ?_) z0) _
  obtain ⟨⟨⟨rd, ownh⟩, hB⟩, own8, own9⟩ := H1
  have c1 : W1.cell? ⟨gr, 1, none⟩ = some (.slice (some ⟨g, 0, none⟩) k c) := rd.br.cell 1
  go_wp2_with fail
  refine (delB_any 0 g k c j h W1 ownh (by have := Hj.out; omega) Hjk.out (by have := Hsz.out; omega)).mono ?_
  rintro e W2 ⟨rfl, own2, gr2, sz2⟩
  rw [Hrs.out] at own2
  have hgr : gr ≠ g := fun e => own_blk_ne ownh.own rd.br (by decide) (by rw [e]; rfl)
  have hgl : gl ≠ g := fun e => own_blk_ne ownh.own rd.lk.blk (by decide) (by rw [e]; rfl)
  have hglt : g < w.heap.size := by
    rcases Hown.out.size with h1 | ⟨g', h1, _, hlt⟩
    · cases h1
    · have : g' = g := by injection h1 with h1; exact h1.symm
      omega
  have far8 : ∀ (A : Option Addr) (m d : Nat) (l : List UInt8), OwnB W1 w.heap.size (.slice A m d) l → (Value.slice A m d).ownBlock ≠ some g := fun A m d l ho => by
    rcases ho.size with h1 | ⟨g', h1, hge, _⟩
    · rw [h1]; intro e; cases e
    · rw [h1]; intro e; injection e; omega
  have keyf := hkg
  have m0 : Rec.M3 w W2 gr g gl := (Rec.M3.of_below gr g gl ⟨hB.os, hB.tape, hB.output, hB.size, hB.block⟩).grown gr2
  have br2 := rd.br.grown gr2 (by intro e; injection e with e; exact hgr e)
  have lk2 : Rec.LkK W2 gl s Ak ck key iv seq := ⟨rd.lk.blk.grown gr2 (by intro e; injection e with e; exact hgl e), rd.lk.own.moved gr2 keyf, rd.lk.iv12⟩
  have own8 := own8.moved gr2 (far8 _ _ _ _ own8)
  have own9 := own9.moved gr2 (far8 _ _ _ _ own9)
  clear rd ownh c1 gr2 sz2
  have c1 : W2.cell? ⟨gr, 1, none⟩ = some (.slice (some ⟨g, 0, none⟩) k c) := br2.cell 1
  have f1 := br2.frozen 1
  obtain ⟨q, Hq⟩ : ∃ q, Hd (k - j = q) := ⟨_, ⟨rfl⟩⟩
  rw [Hq.out] at own2 ⊢
  have br3 : Blk (W2.setCell ⟨gr, 1, none⟩ (.slice (some ⟨g, 0, none⟩) q c)) gr 84 (Rec.rdc (.pointer (some ⟨gl, 0, none⟩)) (.slice (some ⟨g, 0, none⟩) q c) skip quiet 0) := br2.set_ 1 _
  have lk3 : Rec.LkK (W2.setCell ⟨gr, 1, none⟩ (.slice (some ⟨g, 0, none⟩) q c)) gl s Ak ck key iv seq := ⟨lk2.blk.far (p := ⟨gr, 1, none⟩) (lk2.blk.ne_ br2 (by decide)) _, lk2.own.far (own_blk_ne lk2.own.own br2 (by decide)) _, lk2.iv12⟩
  have own3 := own2.far (p := ⟨gr, 1, none⟩) (own_blk_ne own2.own br2 (by decide)) (.slice (some ⟨g, 0, none⟩) q c)
  have own8 := own8.far (p := ⟨gr, 1, none⟩) (own_blk_ne own8.own br2 (by decide)) (.slice (some ⟨g, 0, none⟩) q c)
  have own9 := own9.far (p := ⟨gr, 1, none⟩) (own_blk_ne own9.own br2 (by decide)) (.slice (some ⟨g, 0, none⟩) q c)
  have m3 := m0.set_ 1 (.slice (some ⟨g, 0, none⟩) q c)
  obtain ⟨W3, HW3⟩ : ∃ x, Hd (W2.setCell ⟨gr, 1, none⟩ (.slice (some ⟨g, 0, none⟩) q c) = x) := ⟨_, ⟨rfl⟩⟩
  have c0 : (W2.setCell ⟨gr, 1, none⟩ (.slice (some ⟨g, 0, none⟩) q c)).cell? ⟨gr, 0, none⟩ = some (.pointer (some ⟨gl, 0, none⟩)) := br3.cell 0
  have c0' : W2.cell? ⟨gr, 0, none⟩ = some (.pointer (some ⟨gl, 0, none⟩)) := br2.cell 0
  go_wp2
  rw [HW3.out] at br3 lk3 own3 own8 own9 m3 ⊢
  clear c0 c0' c1 f1 HW3 br2 lk2 own2
  refine p_start (fun W => (Rec.RdAt W gr gl (.slice (some ⟨g, 0, none⟩) q c) skip quiet s Ak ck key iv seq ∧ OwnB W 0 (.slice (some ⟨g, 0, none⟩) q c) rest ∧ Rec.M3 w W gr g gl) ∧ OwnB W w.heap.size (.slice A8 5 c8) head ∧ OwnB W w.heap.size (.slice A9 M c9) sd) (by kernel_rfl) ⟨⟨(Rec.RdAt.mk br3 lk3).next (Below.refl _ _).drew, own3.drew, m3.next (Below.refl _ _).drew⟩, own8.drew, own9.drew⟩ ?_
  clear br3 lk3 own3 own8 own9 m3
  refine p_take 0 (o := _) rfl (by kernel_rfl) (by kernel_rfl) (by kernel_rfl) (wanted_plain rfl) (.pointer (some ⟨gr, 0, none⟩)) (fun _ _ _ h => h) (fun W hW => run_move (by rfl) (by simp [Act.eval]) W) ?_
  simp only [Act.put, List.getElem_toArray, List.getElem_cons_succ, List.getElem_cons_zero, List.setIfInBounds_toArray, List.set_cons_zero, List.set_cons_succ]
  refine p_take 1 (o := _) rfl (by kernel_rfl) (by kernel_rfl) (by kernel_rfl) (wanted_plain rfl) (.pointer (some ⟨gr, 0, none⟩)) (fun _ _ _ h => h) (fun W hW => Rec.run_nilCheck' (by rfl) (by simp [Act.eval])) ?_
  simp only [Act.put, List.getElem_toArray, List.getElem_cons_succ, List.getElem_cons_zero, List.setIfInBounds_toArray, List.set_cons_zero, List.set_cons_succ]
  refine p_take 2 (o := _) rfl (by kernel_rfl) (by kernel_rfl) (by kernel_rfl) (wanted_plain rfl) (.pointer (some ⟨gr, 0, none⟩)) (fun _ _ _ h => h) (fun W hW => run_fieldAddr (by rfl) (by simp [Act.eval]) (Rec.fieldR gr 0 (by omega))) ?_
  simp only [Act.put, List.getElem_toArray, List.getElem_cons_succ, List.getElem_cons_zero, List.setIfInBounds_toArray, List.set_cons_zero, List.set_cons_succ]
  refine p_take 3 (o := _) rfl (by kernel_rfl) (by kernel_rfl) (by kernel_rfl) (wanted_plain rfl) (.pointer (some ⟨gl, 0, none⟩)) (fun _ _ _ h => h) (fun W hW => Rec.run_load_c Rec.na_lp (by rfl) _ _ (by simp [Act.eval]) (hW.1.1.br.cell 0)) ?_
  simp only [Act.put, List.getElem_toArray, List.getElem_cons_succ, List.getElem_cons_zero, List.setIfInBounds_toArray, List.set_cons_zero, List.set_cons_succ]
  refine p_take 4 (o := _) rfl (by kernel_rfl) (by kernel_rfl) (by kernel_rfl) (wanted_plain rfl) (.pointer (some ⟨gl, 0, none⟩)) (fun _ _ _ h => h) (fun W hW => Rec.run_nilCheck' (by rfl) (by simp [Act.eval])) ?_
  simp only [Act.put, List.getElem_toArray, List.getElem_cons_succ, List.getElem_cons_zero, List.setIfInBounds_toArray, List.set_cons_zero, List.set_cons_succ]
  refine p_take 5 (o := _) rfl (by kernel_rfl) (by kernel_rfl) (by kernel_rfl) (wanted_plain rfl) (.pointer (some ⟨gl, 0, none⟩)) (fun _ _ _ h => h) (fun W hW => run_fieldAddr (by rfl) (by simp [Act.eval]) (Rec.field0 _)) ?_
  simp only [Act.put, List.getElem_toArray, List.getElem_cons_succ, List.getElem_cons_zero, List.setIfInBounds_toArray, List.set_cons_zero, List.set_cons_succ]
  refine p_take 6 (o := _) rfl (by kernel_rfl) (by kernel_rfl) (by kernel_rfl) (wanted_plain rfl) (.int .u16 ((n16 s : Nat) : Int)) (fun _ _ _ h => h) (fun W hW => Rec.run_load_c Rec.na_suite (by rfl) _ _ (by simp [Act.eval]) hW.1.1.lk.c0) ?_
  simp only [Act.put, List.getElem_toArray, List.getElem_cons_succ, List.getElem_cons_zero, List.setIfInBounds_toArray, List.set_cons_zero, List.set_cons_succ]
  refine p_take 7 (o := _) rfl (by kernel_rfl) (by kernel_rfl) (by kernel_rfl) (wanted_plain rfl) (.pointer (some ⟨gr, 0, none⟩)) (fun _ _ _ h => h) (fun W hW => run_move (by rfl) (by simp [Act.eval]) W) ?_
  simp only [Act.put, List.getElem_toArray, List.getElem_cons_succ, List.getElem_cons_zero, List.setIfInBounds_toArray, List.set_cons_zero, List.set_cons_succ]
  refine p_take 8 (o := _) rfl (by kernel_rfl) (by kernel_rfl) (by kernel_rfl) (wanted_plain rfl) (.pointer (some ⟨gr, 0, none⟩)) (fun _ _ _ h => h) (fun W hW => Rec.run_nilCheck' (by rfl) (by simp [Act.eval])) ?_
  simp only [Act.put, List.getElem_toArray, List.getElem_cons_succ, List.getElem_cons_zero, List.setIfInBounds_toArray, List.set_cons_zero, List.set_cons_succ]
  refine p_take 9 (o := _) rfl (by kernel_rfl) (by kernel_rfl) (by kernel_rfl) (wanted_plain rfl) (.pointer (some ⟨gr, 0, none⟩)) (fun _ _ _ h => h) (fun W hW => run_fieldAddr (by rfl) (by simp [Act.eval]) (Rec.fieldR gr 0 (by omega))) ?_
  simp only [Act.put, List.getElem_toArray, List.getElem_cons_succ, List.getElem_cons_zero, List.setIfInBounds_toArray, List.set_cons_zero, List.set_cons_succ]
  refine p_take 10 (o := _) rfl (by kernel_rfl) (by kernel_rfl) (by kernel_rfl) (wanted_plain rfl) (.pointer (some ⟨gl, 0, none⟩)) (fun _ _ _ h => h) (fun W hW => Rec.run_load_c Rec.na_lp (by rfl) _ _ (by simp [Act.eval]) (hW.1.1.br.cell 0)) ?_
  simp only [Act.put, List.getElem_toArray, List.getElem_cons_succ, List.getElem_cons_zero, List.setIfInBounds_toArray, List.set_cons_zero, List.set_cons_succ]
  refine p_take 11 (o := _) rfl (by kernel_rfl) (by kernel_rfl) (by kernel_rfl) (wanted_plain rfl) (.pointer (some ⟨gl, 0, none⟩)) (fun _ _ _ h => h) (fun W hW => Rec.run_nilCheck' (by rfl) (by simp [Act.eval])) ?_
  simp only [Act.put, List.getElem_toArray, List.getElem_cons_succ, List.getElem_cons_zero, List.setIfInBounds_toArray, List.set_cons_zero, List.set_cons_succ]
  refine p_take 12 (o := _) rfl (by kernel_rfl) (by kernel_rfl) (by kernel_rfl) (wanted_plain rfl) (.pointer (some ⟨gl, 1, none⟩)) (fun _ _ _ h => h) (fun W hW => run_fieldAddr (by rfl) (by simp [Act.eval]) (Rec.field1 _)) ?_
  simp only [Act.put, List.getElem_toArray, List.getElem_cons_succ, List.getElem_cons_zero, List.setIfInBounds_toArray, List.set_cons_zero, List.set_cons_succ]
  refine p_take 13 (o := _) rfl (by kernel_rfl) (by kernel_rfl) (by kernel_rfl) (wanted_plain rfl) (.slice Ak key.length ck) (fun _ _ _ h => h) (fun W hW => Rec.run_load_c Rec.na_bytes (by rfl) _ _ (by simp [Act.eval]) hW.1.1.lk.c1) ?_
  simp only [Act.put, List.getElem_toArray, List.getElem_cons_succ, List.getElem_cons_zero, List.setIfInBounds_toArray, List.set_cons_zero, List.set_cons_succ]
  refine p_take 14 (o := _) rfl (by kernel_rfl) (by kernel_rfl) (by kernel_rfl) (wanted_plain rfl) (.pointer (some ⟨gr, 0, none⟩)) (fun _ _ _ h => h) (fun W hW => run_move (by rfl) (by simp [Act.eval]) W) ?_
  simp only [Act.put, List.getElem_toArray, List.getElem_cons_succ, List.getElem_cons_zero, List.setIfInBounds_toArray, List.set_cons_zero, List.set_cons_succ]
  refine p_take 15 (o := _) rfl (by kernel_rfl) (by kernel_rfl) (by kernel_rfl) (wanted_plain rfl) (.pointer (some ⟨gr, 0, none⟩)) (fun _ _ _ h => h) (fun W hW => Rec.run_nilCheck' (by rfl) (by simp [Act.eval])) ?_
  simp only [Act.put, List.getElem_toArray, List.getElem_cons_succ, List.getElem_cons_zero, List.setIfInBounds_toArray, List.set_cons_zero, List.set_cons_succ]
  refine p_take 16 (o := _) rfl (by kernel_rfl) (by kernel_rfl) (by kernel_rfl) (wanted_plain rfl) (.pointer (some ⟨gr, 0, none⟩)) (fun _ _ _ h => h) (fun W hW => run_fieldAddr (by rfl) (by simp [Act.eval]) (Rec.fieldR gr 0 (by omega))) ?_
  simp only [Act.put, List.getElem_toArray, List.getElem_cons_succ, List.getElem_cons_zero, List.setIfInBounds_toArray, List.set_cons_zero, List.set_cons_succ]
  refine p_take 17 (o := _) rfl (by kernel_rfl) (by kernel_rfl) (by kernel_rfl) (wanted_plain rfl) (.pointer (some ⟨gl, 0, none⟩)) (fun _ _ _ h => h) (fun W hW => Rec.run_load_c Rec.na_lp (by rfl) _ _ (by simp [Act.eval]) (hW.1.1.br.cell 0)) ?_
  simp only [Act.put, List.getElem_toArray, List.getElem_cons_succ, List.getElem_cons_zero, List.setIfInBounds_toArray, List.set_cons_zero, List.set_cons_succ]
  refine p_take 18 (o := _) rfl (by kernel_rfl) (by kernel_rfl) (by kernel_rfl) (wanted_plain rfl) (.pointer (some ⟨gl, 0, none⟩)) (fun _ _ _ h => h) (fun W hW => Rec.run_nilCheck' (by rfl) (by simp [Act.eval])) ?_
  simp only [Act.put, List.getElem_toArray, List.getElem_cons_succ, List.getElem_cons_zero, List.setIfInBounds_toArray, List.set_cons_zero, List.set_cons_succ]
  refine p_take 19 (o := _) rfl (by kernel_rfl) (by kernel_rfl) (by kernel_rfl) (wanted_plain rfl) (.pointer (some ⟨gl, 2, none⟩)) (fun _ _ _ h => h) (fun W hW => run_fieldAddr (by rfl) (by simp [Act.eval]) (Rec.field2 _)) ?_
  simp only [Act.put, List.getElem_toArray, List.getElem_cons_succ, List.getElem_cons_zero, List.setIfInBounds_toArray, List.set_cons_zero, List.set_cons_succ]
  refine p_take 20 (o := _) rfl (by kernel_rfl) (by kernel_rfl) (by kernel_rfl) (wanted_plain rfl) (.agg (arr iv)) (fun _ _ _ h => h) (fun W hW => run_load_arr (by rfl) (by simp [Act.eval]) ty12 iv hW.1.1.lk.iv12 hW.1.1.lk.civ) ?_
  simp only [Act.put, List.getElem_toArray, List.getElem_cons_succ, List.getElem_cons_zero, List.setIfInBounds_toArray, List.set_cons_zero, List.set_cons_succ]
  refine p_take 21 (o := _) rfl (by kernel_rfl) (by kernel_rfl) (by kernel_rfl) (wanted_plain rfl) (.pointer (some ⟨gr, 0, none⟩)) (fun _ _ _ h => h) (fun W hW => run_move (by rfl) (by simp [Act.eval]) W) ?_
  simp only [Act.put, List.getElem_toArray, List.getElem_cons_succ, List.getElem_cons_zero, List.setIfInBounds_toArray, List.set_cons_zero, List.set_cons_succ]
  refine p_take 22 (o := _) rfl (by kernel_rfl) (by kernel_rfl) (by kernel_rfl) (wanted_plain rfl) (.pointer (some ⟨gr, 0, none⟩)) (fun _ _ _ h => h) (fun W hW => Rec.run_nilCheck' (by rfl) (by simp [Act.eval])) ?_
  simp only [Act.put, List.getElem_toArray, List.getElem_cons_succ, List.getElem_cons_zero, List.setIfInBounds_toArray, List.set_cons_zero, List.set_cons_succ]
  refine p_take 23 (o := _) rfl (by kernel_rfl) (by kernel_rfl) (by kernel_rfl) (wanted_plain rfl) (.pointer (some ⟨gr, 0, none⟩)) (fun _ _ _ h => h) (fun W hW => run_fieldAddr (by rfl) (by simp [Act.eval]) (Rec.fieldR gr 0 (by omega))) ?_
  simp only [Act.put, List.getElem_toArray, List.getElem_cons_succ, List.getElem_cons_zero, List.setIfInBounds_toArray, List.set_cons_zero, List.set_cons_succ]
  refine p_take 24 (o := _) rfl (by kernel_rfl) (by kernel_rfl) (by kernel_rfl) (wanted_plain rfl) (.pointer (some ⟨gl, 0, none⟩)) (fun _ _ _ h => h) (fun W hW => Rec.run_load_c Rec.na_lp (by rfl) _ _ (by simp [Act.eval]) (hW.1.1.br.cell 0)) ?_
  simp only [Act.put, List.getElem_toArray, List.getElem_cons_succ, List.getElem_cons_zero, List.setIfInBounds_toArray, List.set_cons_zero, List.set_cons_succ]
  refine p_take 25 (o := _) rfl (by kernel_rfl) (by kernel_rfl) (by kernel_rfl) (wanted_plain rfl) (.pointer (some ⟨gl, 0, none⟩)) (fun _ _ _ h => h) (fun W hW => Rec.run_nilCheck' (by rfl) (by simp [Act.eval])) ?_
  simp only [Act.put, List.getElem_toArray, List.getElem_cons_succ, List.getElem_cons_zero, List.setIfInBounds_toArray, List.set_cons_zero, List.set_cons_succ]
  refine p_take 26 (o := _) rfl (by kernel_rfl) (by kernel_rfl) (by kernel_rfl) (wanted_plain rfl) (.pointer (some ⟨gl, 14, none⟩)) (fun _ _ _ h => h) (fun W hW => run_fieldAddr (by rfl) (by simp [Act.eval]) (Rec.field3 _)) ?_
  simp only [Act.put, List.getElem_toArray, List.getElem_cons_succ, List.getElem_cons_zero, List.setIfInBounds_toArray, List.set_cons_zero, List.set_cons_succ]
  refine p_take 27 (o := _) rfl (by kernel_rfl) (by kernel_rfl) (by kernel_rfl) (wanted_plain rfl) (.int .u64 ((n64 seq : Nat) : Int)) (fun _ _ _ h => h) (fun W hW => Rec.run_load_c Rec.na_u64 (by rfl) _ _ (by simp [Act.eval]) hW.1.1.lk.c14) ?_
  simp only [Act.put, List.getElem_toArray, List.getElem_cons_succ, List.getElem_cons_zero, List.setIfInBounds_toArray, List.set_cons_zero, List.set_cons_succ]
  refine p_take 29 (o := _) rfl (by kernel_rfl) (by kernel_rfl) (by kernel_rfl) (wanted_plain rfl) (.slice A8 5 c8) (fun _ _ _ h => h) (fun W hW => run_move (by rfl) (by simp [Act.eval]) W) ?_
  simp only [Act.put, List.getElem_toArray, List.getElem_cons_succ, List.getElem_cons_zero, List.setIfInBounds_toArray, List.set_cons_zero, List.set_cons_succ]
  refine p_take 30 (o := _) rfl (by kernel_rfl) (by kernel_rfl) (by kernel_rfl) (wanted_plain rfl) (.slice A9 M c9) (fun _ _ _ h => h) (fun W hW => run_move (by rfl) (by simp [Act.eval]) W) ?_
  simp only [Act.put, List.getElem_toArray, List.getElem_cons_succ, List.getElem_cons_zero, List.setIfInBounds_toArray, List.set_cons_zero, List.set_cons_succ]
  refine p_one 28 (by kernel_rfl) (fun W hW _ => ?_)
  refine op_call (o := _) rfl (wanted_plain rfl) 43 _ _ rfl #[.agg (arr iv), .int .u64 ((n64 seq : Nat) : Int)] (by simp [Act.eval]) (Rec.enter_nonce _) ?_
  refine (nonce_any iv hW.1.1.lk.iv12 seq W).mono ?_
  rintro e W5 ⟨rfl, hE⟩
  rw [Hnc.out]
  refine ⟨_, rfl, Next.mk (fun W => (Rec.RdAt W gr gl (.slice (some ⟨g, 0, none⟩) q c) skip quiet s Ak ck key iv seq ∧ OwnB W 0 (.slice (some ⟨g, 0, none⟩) q c) rest ∧ Rec.M3 w W gr g gl) ∧ OwnB W w.heap.size (.slice A8 5 c8) head ∧ OwnB W w.heap.size (.slice A9 M c9) sd) (fun _ => True) (fun _ h => h) ⟨⟨hW.1.1.next hE, hW.1.2.1.later hE, hW.1.2.2.next hE⟩, hW.2.1.later hE, hW.2.2.later hE⟩ trivial ?_⟩
  clear hE hW
  simp only [Act.put, List.getElem_toArray, List.getElem_cons_succ, List.getElem_cons_zero, List.setIfInBounds_toArray, List.set_cons_zero, List.set_cons_succ]
  refine p_one 31 (by kernel_rfl) (fun W hW _ => ?_)
  refine op_call (o := _) rfl (wanted_plain rfl) 11 _ _ rfl #[.int .u16 ((n16 s : Nat) : Int), .slice Ak key.length ck, .agg (arr nc), .slice A8 5 c8, .slice A9 M c9] (by simp [Act.eval]) (Rec.enter_open _) ?_
  refine (suiteOpen_ok s key.length (by rw [Hk.out]; exact Hs.out) Ak ck key nc Lnc.out A8 5 c8 head A9 M c9 sd W hW.1.1.lk.own.reads_any.2 (by have h1 := hW.2.1.reads_any; exact h1.2) hW.2.1.room (by have h1 := hW.2.2.reads_any; exact h1.2) hW.2.2.room (by have := HMl.out; omega)).mono ?_
  intro e W6 hO
  rw [Hopen.out] at hO
  obtain ⟨v, rfl, own, hE⟩ := hO
  have own := own.low (B' := w.heap.size) hW.1.2.2.size
  obtain ⟨A10, c10, e10⟩ := own.slice
  rw [Ltx.out] at e10
  subst e10
  refine ⟨_, rfl, Next.mk (fun W => (Rec.RdAt W gr gl (.slice (some ⟨g, 0, none⟩) q c) skip quiet s Ak ck key iv seq ∧ OwnB W 0 (.slice (some ⟨g, 0, none⟩) q c) rest ∧ Rec.M3 w W gr g gl) ∧ OwnB W w.heap.size (.slice A8 5 c8) head ∧ OwnB W w.heap.size (.slice A9 M c9) sd ∧ OwnB W w.heap.size (.slice A10 (n + 1 + R) c10) tx) (fun _ => True) (fun _ h => ⟨h.1, h.2.1, h.2.2.1⟩) ⟨⟨hW.1.1.next hE, hW.1.2.1.later hE, hW.1.2.2.next hE⟩, hW.2.1.later hE, hW.2.2.later hE, own⟩ trivial ?_⟩
  clear hE hW own
  simp only [Act.put, List.getElem_toArray, List.getElem_cons_succ, List.getElem_cons_zero, List.setIfInBounds_toArray, List.set_cons_zero, List.set_cons_succ]
  refine p_take 32 (o := _) rfl (by kernel_rfl) (by kernel_rfl) (by kernel_rfl) (wanted_plain rfl) (.tuple #[.slice A10 (n + 1 + R) c10, .int .i64 0]) (fun _ _ _ h => h) (fun W hW => run_move (by rfl) (by simp [Act.eval]) W) ?_
  simp only [Act.put, List.getElem_toArray, List.getElem_cons_succ, List.getElem_cons_zero, List.setIfInBounds_toArray, List.set_cons_zero, List.set_cons_succ]
  refine p_take 33 (o := _) rfl (by kernel_rfl) (by kernel_rfl) (by kernel_rfl) (wanted_plain rfl) (.slice A10 (n + 1 + R) c10) (fun _ _ _ h => h) (fun W hW => run_extract (by rfl) #[.slice A10 (n + 1 + R) c10, .int .i64 0] (.slice A10 (n + 1 + R) c10) (by simp [Act.eval]) (by rfl)) ?_
  simp only [Act.put, List.getElem_toArray, List.getElem_cons_succ, List.getElem_cons_zero, List.setIfInBounds_toArray, List.set_cons_zero, List.set_cons_succ]
  refine p_take 34 (o := _) rfl (by kernel_rfl) (by kernel_rfl) (by kernel_rfl) (wanted_plain rfl) (.int .i64 0) (fun _ _ _ h => h) (fun W hW => run_extract (by rfl) #[.slice A10 (n + 1 + R) c10, .int .i64 0] (.int .i64 0) (by simp [Act.eval]) (by rfl)) ?_
  simp only [Act.put, List.getElem_toArray, List.getElem_cons_succ, List.getElem_cons_zero, List.setIfInBounds_toArray, List.set_cons_zero, List.set_cons_succ]
  refine p_take 35 (o := _) rfl (by kernel_rfl) (by kernel_rfl) (by kernel_rfl) (wanted_plain rfl) (.slice A10 (n + 1 + R) c10) (fun _ _ _ h => h) (fun W hW => run_assign (by rfl) (by simp [Act.eval]) W) ?_
  simp only [Act.put, List.getElem_toArray, List.getElem_cons_succ, List.getElem_cons_zero, List.setIfInBounds_toArray, List.set_cons_zero, List.set_cons_succ]
  refine p_take 36 (o := _) rfl (by kernel_rfl) (by kernel_rfl) (by kernel_rfl) (wanted_plain rfl) (.int .i64 0) (fun _ _ _ h => h) (fun W hW => run_assign (by rfl) (by simp [Act.eval]) W) ?_
  simp only [Act.put, List.getElem_toArray, List.getElem_cons_succ, List.getElem_cons_zero, List.setIfInBounds_toArray, List.set_cons_zero, List.set_cons_succ]
  refine (show ∀ z0, wpAnyV _ _ _ _ _ _ z0 _ _ _ from fun z0 => p_done (by kernel_rfl) (fun W7 H => ?_) z0) _
  obtain ⟨⟨rd, ownr, m7⟩, _, _, own⟩ := H
  have hroom10 := own.room
  go_wp2_with fail
  refine (Rec.opened_any gr gl (.slice (some ⟨g, 0, none⟩) q c) skip quiet s Ak ck key iv seq A10 n R c10 b t W7 rd Hseq.out (by rw [← Htx2.out]; exact own.reads_any.2) hroom10 Hn.out Hsz.out.1 Hsz.out.2.1 Ht0.out Htc.out (fun ad hA => by
    subst hA
    exact ⟨fun e => own_blk_ne own.own rd.br (by decide) (by rw [← e]; rfl), fun e => own_blk_ne own.own rd.lk.blk (by decide) (by rw [← e]; rfl)⟩)).mono ?_
  rintro e W8 ⟨rfl, rd8, m8, sz8⟩
  have ownr8 := m8.own ownr (own_blk_ne ownr.own rd.br (by decide)) (.inl (own_blk_ne ownr.own rd.lk.blk (by decide)))
  have own8 := m8.own own (own_blk_ne own.own rd.br (by decide)) (.inl (own_blk_ne own.own rd.lk.blk (by decide)))
  have hrd8 : ReadsB W8 W8.heap.size A10 n b := by
    have h1 := own8.reads_any.2.take (k := n) (by omega)
    have h2 : tx.take n = b := by rw [Htx2.out, List.append_assoc, ← Hn.out]; exact List.take_left' rfl
    rw [h2] at h1
    exact h1
  go_wp2
  rw [Exit.noGoto_ret]
  refine bodyPost_ret (results_tmp4 rfl _ _ _) rfl ?_
  rw [Hq.out]
  exact ⟨A10, rfl, hrd8, rd8, ownr8, m7.mv m8⟩
set_option maxHeartbeats 16000000 in
set_option maxRecDepth 100000 in
theorem Rec.next_F (n0 : Nat) (s : UInt16) (hs : Suite.Ok s n0) (Ak : Option Addr) (ck : Nat) (key iv : List UInt8) (hk : key.length = n0) (seq : UInt64) (hseq : (seq + 1 == 0) = false) (gr gl g k c : Nat) (skip : Int) (quiet : Bool) (t : UInt8) (b rest : List UInt8) (n pad R : Nat) (w : World)
    (hrd : Rec.RdAt w gr gl (.slice (some ⟨g, 0, none⟩) k c) skip quiet s Ak ck key iv seq) (ho : OwnB w 0 (.slice (some ⟨g, 0, none⟩) k c) (Rec.recOf s key iv seq t b pad ++ rest)) (hkk : k ≤ 16645) (hn : b.length = n) (hn2 : n ≤ 16384) (hp : pad ≤ 255) (hR : R = min pad (16384 - n)) (ht0 : (t == 0) = false) (htc : t = 23 ∨ (0 < n ∧ (t = 21 ∨ t = 22))) (hkg : (Value.slice Ak key.length ck).ownBlock ≠ some g) (hq : ¬ 16384 < n + 1 + R + 16) :
    Calls Try.prog 24 #[.pointer (some ⟨gr, 0, none⟩)] w fun e w' => ∃ A2, e = .returned (.tuple #[.int .u8 ((n8 t : Nat) : Int), .slice A2 n n, .bool true, .int .i64 0]) ∧ ReadsB w' w'.heap.size A2 n b ∧ Rec.RdAt w' gr gl (.slice (some ⟨g, 0, none⟩) (k - (5 + (n + 1 + R + 16))) c) 0 quiet s Ak ck key iv (seq + 1) ∧ OwnB w' 0 (.slice (some ⟨g, 0, none⟩) (k - (5 + (n + 1 + R + 16))) c) rest ∧ Rec.M3 w w' gr g gl := by
  have Hs := hd hs
  have Hk := hd hk
  have Htc := hd htc
  have Ht0 := hd ht0
  have Hseq := hd hseq
  have Hsz := hd (show n ≤ 16384 ∧ R ≤ 255 ∧ k ≤ 16645 by omega)
  have Hn := hd hn
  obtain ⟨tx, Htx⟩ : ∃ x, Hd (Rec.textOf b t pad = x) := ⟨_, ⟨rfl⟩⟩
  have Ltx := hd (show tx.length = n + 1 + R by rw [← Htx.out, Rec.textOf_len, hn, ← hR])
  have Htx2 := hd (show tx = b ++ [t] ++ List.replicate R 0 by rw [← Htx.out, hR, ← hn]; unfold Rec.textOf; rfl)
  obtain ⟨M, HM⟩ : ∃ x, Hd (n + 1 + R + 16 = x) := ⟨_, ⟨rfl⟩⟩
  have HMl := hd (show M ≤ 16656 ∧ 16 < M by have := HM.out; have := Hsz.out; omega)
  have HM4 := hd (show M ≤ 16640 by have := HM.out; omega)
  obtain ⟨j, Hj⟩ : ∃ x, Hd (5 + M = x) := ⟨_, ⟨rfl⟩⟩
  obtain ⟨h, Hh⟩ : ∃ x, Hd (Rec.recOf s key iv seq t b pad ++ rest = x) := ⟨_, ⟨rfl⟩⟩
  obtain ⟨b0, b3, b4, hhd, hbd, hrs⟩ := Rec.rec_bytes s key iv seq t b rest pad M (by rw [Htx.out, Ltx.out, HM.out])
  rw [Hh.out] at b0 b3 b4 hhd hbd hrs ho
  rw [Htx.out] at hbd
  have Hlen := hd (show h.length = k by have := ho.reads_any.1; omega)
  have Hjk := hd (show j ≤ k by
    have h1 : (Rec.recOf s key iv seq t b pad ++ rest).length = k := by rw [Hh.out]; exact Hlen.out
    rw [List.length_append, Rec.recOf_len, hn, ← hR] at h1
    have := Hj.out; have := HM.out; omega)
  obtain ⟨head, Hhead⟩ : ∃ x, Hd (Rec.hdr 23 M = x) := ⟨_, ⟨rfl⟩⟩
  obtain ⟨nc, Hnc⟩ : ∃ x, Hd (Suite.nonceOf iv seq = x) := ⟨_, ⟨rfl⟩⟩
  have Lnc := hd (show nc.length = 12 by rw [← Hnc.out, Suite.nonce_len, hrd.lk.iv12])
  obtain ⟨sd, Hsd⟩ : ∃ x, Hd (Rec.sealOf s key nc head tx = x) := ⟨_, ⟨rfl⟩⟩
  have Hopen := hd (show Rec.openOf s key nc head sd = some tx by rw [← Hsd.out]; exact Rec.open_seal _ _ _ _ _)
  have Hb0 := hd b0
  have Hb3 := hd b3
  have Hb4 := hd b4
  have Hhd := hd (show h.take 5 = head by rw [hhd, Hhead.out])
  have Hbd := hd (show (h.drop 5).take M = sd by rw [hbd, Hhead.out, Hnc.out, Hsd.out])
  have Hrs := hd (show h.drop j = rest by rw [← Hj.out]; exact hrs)
  have hroom := ho.room
  have Hown := hd ho
  clear ho hs hk htc ht0 hseq b0 b3 b4 hhd hbd hrs hp hR
  have hqM := hd hq
  clear hq
  rw [HM.out] at hqM ⊢
  rw [Hj.out]
  have c4 : w.cell? ⟨gr, 4, none⟩ = some (.int .i64 0) := hrd.br.cell 4
  have c1 : w.cell? ⟨gr, 1, none⟩ = some (.slice (some ⟨g, 0, none⟩) k c) := hrd.br.cell 1
  have t5 : (5 : Int) ≤ (k : Int) := by have := Hjk.out; have := Hj.out; omega
  go_enter Try.func24, Try.ntmps24
  go_wp2
  go_step3
  go_wp2
  go_step3
  go_wp2
  refine wp_loop_rounds 1 ?_
  rw [rounds_succ]
  go_wp2
  refine p_start (fun W => Rec.RdAt W gr gl (.slice (some ⟨g, 0, none⟩) k c) skip quiet s Ak ck key iv seq ∧ OwnB W 0 (.slice (some ⟨g, 0, none⟩) k c) h ∧ Below w.heap.size w W) (by kernel_rfl) ⟨hrd.next (Below.refl _ _).drew, Hown.out.drew, (Below.refl _ _).drew⟩ ?_
  clear c4 c1
  refine p_take 0 (o := _) rfl (by kernel_rfl) (by kernel_rfl) (by kernel_rfl) (wanted_plain rfl) (.pointer (some ⟨gr, 0, none⟩)) (fun _ _ _ h => h) (fun W hW => run_move (by rfl) (by simp [Act.eval]) W) ?_
  simp only [Act.put, List.getElem_toArray, List.getElem_cons_succ, List.getElem_cons_zero, List.setIfInBounds_toArray, List.set_cons_zero, List.set_cons_succ]
  refine p_take 1 (o := _) rfl (by kernel_rfl) (by kernel_rfl) (by kernel_rfl) (wanted_plain rfl) (.pointer (some ⟨gr, 0, none⟩)) (fun _ _ _ h => h) (fun W hW => Rec.run_nilCheck' (by rfl) (by simp [Act.eval])) ?_
  simp only [Act.put, List.getElem_toArray, List.getElem_cons_succ, List.getElem_cons_zero, List.setIfInBounds_toArray, List.set_cons_zero, List.set_cons_succ]
  refine p_take 2 (o := _) rfl (by kernel_rfl) (by kernel_rfl) (by kernel_rfl) (wanted_plain rfl) (.pointer (some ⟨gr, 1, none⟩)) (fun _ _ _ h => h) (fun W hW => run_fieldAddr (by rfl) (by simp [Act.eval]) (Rec.fieldR gr 1 (by omega))) ?_
  simp only [Act.put, List.getElem_toArray, List.getElem_cons_succ, List.getElem_cons_zero, List.setIfInBounds_toArray, List.set_cons_zero, List.set_cons_succ]
  refine p_take 3 (o := _) rfl (by kernel_rfl) (by kernel_rfl) (by kernel_rfl) (wanted_plain rfl) (.slice (some ⟨g, 0, none⟩) k c) (fun _ _ _ h => h) (fun W hW => Rec.run_load_c Rec.na_bytes (by rfl) _ _ (by simp [Act.eval]) (hW.1.br.cell 1)) ?_
  simp only [Act.put, List.getElem_toArray, List.getElem_cons_succ, List.getElem_cons_zero, List.setIfInBounds_toArray, List.set_cons_zero, List.set_cons_succ]
  refine p_take 4 (o := _) rfl (by kernel_rfl) (by kernel_rfl) (by kernel_rfl) (wanted_plain rfl) (.pointer (some ⟨g, 0, none⟩)) (fun _ _ _ h => h) (fun W hW => Rec.run_indexSl (by rfl) Try.underlying24 u8_cell1 g k c 0 (by simp [Act.eval]) (by simp [Act.eval]) (by have := Hjk.out; have := Hj.out; omega)) ?_
  simp only [Act.put, List.getElem_toArray, List.getElem_cons_succ, List.getElem_cons_zero, List.setIfInBounds_toArray, List.set_cons_zero, List.set_cons_succ]
  refine p_take 5 (o := _) rfl (by kernel_rfl) (by kernel_rfl) (by kernel_rfl) (wanted_plain rfl) (.int .u8 23) (fun _ _ _ h => h) (fun W hW => Rec.run_load_c Rec.na_u8 (by rfl) ⟨g, 0, none⟩ (.int .u8 23) (by simp [Act.eval]) (by have h1 := Rec.own_cell hW.2.1 0 (by have := Hjk.out; have := Hj.out; omega); rw [Hb0.out] at h1; exact h1)) ?_
  simp only [Act.put, List.getElem_toArray, List.getElem_cons_succ, List.getElem_cons_zero, List.setIfInBounds_toArray, List.set_cons_zero, List.set_cons_succ]
  refine p_take 6 (o := _) rfl (by kernel_rfl) (by kernel_rfl) (by kernel_rfl) (wanted_plain rfl) (.pointer (some ⟨gr, 0, none⟩)) (fun _ _ _ h => h) (fun W hW => run_move (by rfl) (by simp [Act.eval]) W) ?_
  simp only [Act.put, List.getElem_toArray, List.getElem_cons_succ, List.getElem_cons_zero, List.setIfInBounds_toArray, List.set_cons_zero, List.set_cons_succ]
  refine p_take 7 (o := _) rfl (by kernel_rfl) (by kernel_rfl) (by kernel_rfl) (wanted_plain rfl) (.pointer (some ⟨gr, 0, none⟩)) (fun _ _ _ h => h) (fun W hW => Rec.run_nilCheck' (by rfl) (by simp [Act.eval])) ?_
  simp only [Act.put, List.getElem_toArray, List.getElem_cons_succ, List.getElem_cons_zero, List.setIfInBounds_toArray, List.set_cons_zero, List.set_cons_succ]
  refine p_take 8 (o := _) rfl (by kernel_rfl) (by kernel_rfl) (by kernel_rfl) (wanted_plain rfl) (.pointer (some ⟨gr, 1, none⟩)) (fun _ _ _ h => h) (fun W hW => run_fieldAddr (by rfl) (by simp [Act.eval]) (Rec.fieldR gr 1 (by omega))) ?_
  simp only [Act.put, List.getElem_toArray, List.getElem_cons_succ, List.getElem_cons_zero, List.setIfInBounds_toArray, List.set_cons_zero, List.set_cons_succ]
  refine p_take 9 (o := _) rfl (by kernel_rfl) (by kernel_rfl) (by kernel_rfl) (wanted_plain rfl) (.slice (some ⟨g, 0, none⟩) k c) (fun _ _ _ h => h) (fun W hW => Rec.run_load_c Rec.na_bytes (by rfl) _ _ (by simp [Act.eval]) (hW.1.br.cell 1)) ?_
  simp only [Act.put, List.getElem_toArray, List.getElem_cons_succ, List.getElem_cons_zero, List.setIfInBounds_toArray, List.set_cons_zero, List.set_cons_succ]
  refine p_take 10 (o := _) rfl (by kernel_rfl) (by kernel_rfl) (by kernel_rfl) (wanted_plain rfl) (.pointer (some ⟨g, 3, none⟩)) (fun _ _ _ h => h) (fun W hW => Rec.run_indexSl (by rfl) Try.underlying24 u8_cell1 g k c 3 (by simp [Act.eval]) (by simp [Act.eval]) (by have := Hjk.out; have := Hj.out; omega)) ?_
  simp only [Act.put, List.getElem_toArray, List.getElem_cons_succ, List.getElem_cons_zero, List.setIfInBounds_toArray, List.set_cons_zero, List.set_cons_succ]
  refine p_take 11 (o := _) rfl (by kernel_rfl) (by kernel_rfl) (by kernel_rfl) (wanted_plain rfl) (.int .u8 ((n8 (UInt8.ofNat (M / 256)) : Nat) : Int)) (fun _ _ _ h => h) (fun W hW => Rec.run_load_c Rec.na_u8 (by rfl) ⟨g, 3, none⟩ (.int .u8 ((n8 (UInt8.ofNat (M / 256)) : Nat) : Int)) (by simp [Act.eval]) (by have h1 := Rec.own_cell hW.2.1 3 (by have := Hjk.out; have := Hj.out; omega); rw [Hb3.out] at h1; exact h1)) ?_
  simp only [Act.put, List.getElem_toArray, List.getElem_cons_succ, List.getElem_cons_zero, List.setIfInBounds_toArray, List.set_cons_zero, List.set_cons_succ]
  refine p_take 12 (o := _) rfl (by kernel_rfl) (by kernel_rfl) (by kernel_rfl) (wanted_plain rfl) (.int .i64 ((M / 256 : Nat) : Int)) (fun _ _ _ h => h) (fun W hW => Rec.run_u8intM (by rfl) (UInt8.ofNat (M / 256)) (M / 256) (Rec.n8_small _ (by have := HMl.out; omega)) (by simp [Act.eval])) ?_
  simp only [Act.put, List.getElem_toArray, List.getElem_cons_succ, List.getElem_cons_zero, List.setIfInBounds_toArray, List.set_cons_zero, List.set_cons_succ]
  refine p_take 13 (o := _) rfl (by kernel_rfl) (by kernel_rfl) (by kernel_rfl) (wanted_plain rfl) (.int .i64 ((256 * (M / 256) : Nat) : Int)) (fun _ _ _ h => h) (fun W hW => Rec.run_shl8 (by rfl) (M / 256) (by have := HMl.out; omega) (by simp [Act.eval]) (by simp [Act.eval])) ?_
  simp only [Act.put, List.getElem_toArray, List.getElem_cons_succ, List.getElem_cons_zero, List.setIfInBounds_toArray, List.set_cons_zero, List.set_cons_succ]
  refine p_take 14 (o := _) rfl (by kernel_rfl) (by kernel_rfl) (by kernel_rfl) (wanted_plain rfl) (.pointer (some ⟨gr, 0, none⟩)) (fun _ _ _ h => h) (fun W hW => run_move (by rfl) (by simp [Act.eval]) W) ?_
  simp only [Act.put, List.getElem_toArray, List.getElem_cons_succ, List.getElem_cons_zero, List.setIfInBounds_toArray, List.set_cons_zero, List.set_cons_succ]
  refine p_take 15 (o := _) rfl (by kernel_rfl) (by kernel_rfl) (by kernel_rfl) (wanted_plain rfl) (.pointer (some ⟨gr, 0, none⟩)) (fun _ _ _ h => h) (fun W hW => Rec.run_nilCheck' (by rfl) (by simp [Act.eval])) ?_
  simp only [Act.put, List.getElem_toArray, List.getElem_cons_succ, List.getElem_cons_zero, List.setIfInBounds_toArray, List.set_cons_zero, List.set_cons_succ]
  refine p_take 16 (o := _) rfl (by kernel_rfl) (by kernel_rfl) (by kernel_rfl) (wanted_plain rfl) (.pointer (some ⟨gr, 1, none⟩)) (fun _ _ _ h => h) (fun W hW => run_fieldAddr (by rfl) (by simp [Act.eval]) (Rec.fieldR gr 1 (by omega))) ?_
  simp only [Act.put, List.getElem_toArray, List.getElem_cons_succ, List.getElem_cons_zero, List.setIfInBounds_toArray, List.set_cons_zero, List.set_cons_succ]
  refine p_take 17 (o := _) rfl (by kernel_rfl) (by kernel_rfl) (by kernel_rfl) (wanted_plain rfl) (.slice (some ⟨g, 0, none⟩) k c) (fun _ _ _ h => h) (fun W hW => Rec.run_load_c Rec.na_bytes (by rfl) _ _ (by simp [Act.eval]) (hW.1.br.cell 1)) ?_
  simp only [Act.put, List.getElem_toArray, List.getElem_cons_succ, List.getElem_cons_zero, List.setIfInBounds_toArray, List.set_cons_zero, List.set_cons_succ]
  refine p_take 18 (o := _) rfl (by kernel_rfl) (by kernel_rfl) (by kernel_rfl) (wanted_plain rfl) (.pointer (some ⟨g, 4, none⟩)) (fun _ _ _ h => h) (fun W hW => Rec.run_indexSl (by rfl) Try.underlying24 u8_cell1 g k c 4 (by simp [Act.eval]) (by simp [Act.eval]) (by have := Hjk.out; have := Hj.out; omega)) ?_
  simp only [Act.put, List.getElem_toArray, List.getElem_cons_succ, List.getElem_cons_zero, List.setIfInBounds_toArray, List.set_cons_zero, List.set_cons_succ]
  refine p_take 19 (o := _) rfl (by kernel_rfl) (by kernel_rfl) (by kernel_rfl) (wanted_plain rfl) (.int .u8 ((n8 (UInt8.ofNat M) : Nat) : Int)) (fun _ _ _ h => h) (fun W hW => Rec.run_load_c Rec.na_u8 (by rfl) ⟨g, 4, none⟩ (.int .u8 ((n8 (UInt8.ofNat M) : Nat) : Int)) (by simp [Act.eval]) (by have h1 := Rec.own_cell hW.2.1 4 (by have := Hjk.out; have := Hj.out; omega); rw [Hb4.out] at h1; exact h1)) ?_
  simp only [Act.put, List.getElem_toArray, List.getElem_cons_succ, List.getElem_cons_zero, List.setIfInBounds_toArray, List.set_cons_zero, List.set_cons_succ]
  refine p_take 20 (o := _) rfl (by kernel_rfl) (by kernel_rfl) (by kernel_rfl) (wanted_plain rfl) (.int .i64 ((M % 256 : Nat) : Int)) (fun _ _ _ h => h) (fun W hW => Rec.run_u8intM (by rfl) (UInt8.ofNat M) (M % 256) UInt8.toNat_ofNat' (by simp [Act.eval])) ?_
  simp only [Act.put, List.getElem_toArray, List.getElem_cons_succ, List.getElem_cons_zero, List.setIfInBounds_toArray, List.set_cons_zero, List.set_cons_succ]
  refine p_take 21 (o := _) rfl (by kernel_rfl) (by kernel_rfl) (by kernel_rfl) (wanted_plain rfl) (.int .i64 (M : Int)) (fun _ _ _ h => h) (fun W hW => Rec.run_orI (by rfl) (M / 256) (M % 256) M (by have := HMl.out; omega) (by omega) (by omega) (by simp [Act.eval]) (by simp [Act.eval])) ?_
  simp only [Act.put, List.getElem_toArray, List.getElem_cons_succ, List.getElem_cons_zero, List.setIfInBounds_toArray, List.set_cons_zero, List.set_cons_succ]
  refine p_take 22 (o := _) rfl (by kernel_rfl) (by kernel_rfl) (by kernel_rfl) (wanted_plain rfl) (.int .u8 23) (fun _ _ _ h => h) (fun W hW => run_assign (by rfl) (by simp [Act.eval]) W) ?_
  simp only [Act.put, List.getElem_toArray, List.getElem_cons_succ, List.getElem_cons_zero, List.setIfInBounds_toArray, List.set_cons_zero, List.set_cons_succ]
  refine p_take 23 (o := _) rfl (by kernel_rfl) (by kernel_rfl) (by kernel_rfl) (wanted_plain rfl) (.int .i64 (M : Int)) (fun _ _ _ h => h) (fun W hW => run_assign (by rfl) (by simp [Act.eval]) W) ?_
  simp only [Act.put, List.getElem_toArray, List.getElem_cons_succ, List.getElem_cons_zero, List.setIfInBounds_toArray, List.set_cons_zero, List.set_cons_succ]
  refine (show ∀ z0, wpAnyV _ _ _ _ _ _ z0 _ _ _ from fun z0 => p_done (by kernel_rfl) (fun W1 H1 => ?_) z0) _
  have c1 : W1.cell? ⟨gr, 1, none⟩ = some (.slice (some ⟨g, 0, none⟩) k c) := H1.1.br.cell 1
  have t6 : ¬ (16640 : Int) < (M : Int) := by have := HM4.out; omega
  have t7 : ¬ (16384 : Int) < (M : Int) := by have := hqM.out; omega
  have e8 : (5 : Int) + (M : Int) = (j : Int) := by have := Hj.out; omega
  have w8 : IntKind.i64.wrap (j : Int) = (j : Int) := IntWalk.i64_in _ (by have := Hj.out; have := HMl.out; omega)
  have t9 : ¬ (k : Int) < (j : Int) := by have := Hjk.out; omega
  go_wp2
  refine p_start (fun W => ((Rec.RdAt W gr gl (.slice (some ⟨g, 0, none⟩) k c) skip quiet s Ak ck key iv seq ∧ OwnB W 0 (.slice (some ⟨g, 0, none⟩) k c) h) ∧ Below w.heap.size w W)) (by kernel_rfl) ⟨⟨H1.1.next (Below.refl _ _).drew, H1.2.1.drew⟩, H1.2.2.drew⟩ ?_
  clear H1 c1
  refine p_take 0 (o := _) rfl (by kernel_rfl) (by kernel_rfl) (by kernel_rfl) (wanted_plain rfl) (.pointer (some ⟨gr, 0, none⟩)) (fun _ _ _ h => h) (fun W hW => run_move (by rfl) (by simp [Act.eval]) W) ?_
  simp only [Act.put, List.getElem_toArray, List.getElem_cons_succ, List.getElem_cons_zero, List.setIfInBounds_toArray, List.set_cons_zero, List.set_cons_succ]
  refine p_take 1 (o := _) rfl (by kernel_rfl) (by kernel_rfl) (by kernel_rfl) (wanted_plain rfl) (.pointer (some ⟨gr, 0, none⟩)) (fun _ _ _ h => h) (fun W hW => Rec.run_nilCheck' (by rfl) (by simp [Act.eval])) ?_
  simp only [Act.put, List.getElem_toArray, List.getElem_cons_succ, List.getElem_cons_zero, List.setIfInBounds_toArray, List.set_cons_zero, List.set_cons_succ]
  refine p_take 2 (o := _) rfl (by kernel_rfl) (by kernel_rfl) (by kernel_rfl) (wanted_plain rfl) (.pointer (some ⟨gr, 1, none⟩)) (fun _ _ _ h => h) (fun W hW => run_fieldAddr (by rfl) (by simp [Act.eval]) (Rec.fieldR gr 1 (by omega))) ?_
  simp only [Act.put, List.getElem_toArray, List.getElem_cons_succ, List.getElem_cons_zero, List.setIfInBounds_toArray, List.set_cons_zero, List.set_cons_succ]
  refine p_take 3 (o := _) rfl (by kernel_rfl) (by kernel_rfl) (by kernel_rfl) (wanted_plain rfl) (.slice (some ⟨g, 0, none⟩) k c) (fun _ _ _ h => h) (fun W hW => Rec.run_load_c Rec.na_bytes (by rfl) _ _ (by simp [Act.eval]) (hW.1.1.br.cell 1)) ?_
  simp only [Act.put, List.getElem_toArray, List.getElem_cons_succ, List.getElem_cons_zero, List.setIfInBounds_toArray, List.set_cons_zero, List.set_cons_succ]
  refine p_take 4 (o := _) rfl (by kernel_rfl) (by kernel_rfl) (by kernel_rfl) (wanted_plain rfl) (.slice (some ⟨g, 0, none⟩) 5 5) (fun _ _ _ h => h) (fun W hW => run_slice_tom (by rfl) Try.underlying24 u8_cell1 (some ⟨g, 0, none⟩) k c 5 (by simp [Act.eval]) (by simp [Act.eval]) (by simp [Act.eval]) (by have := Hjk.out; have := Hj.out; omega)) ?_
  simp only [Act.put, List.getElem_toArray, List.getElem_cons_succ, List.getElem_cons_zero, List.setIfInBounds_toArray, List.set_cons_zero, List.set_cons_succ]
  refine p_take 6 (o := _) rfl (by kernel_rfl) (by kernel_rfl) (by kernel_rfl) (wanted_plain rfl) (.pointer (some ⟨gr, 0, none⟩)) (fun _ _ _ h => h) (fun W hW => run_move (by rfl) (by simp [Act.eval]) W) ?_
  simp only [Act.put, List.getElem_toArray, List.getElem_cons_succ, List.getElem_cons_zero, List.setIfInBounds_toArray, List.set_cons_zero, List.set_cons_succ]
  refine p_take 7 (o := _) rfl (by kernel_rfl) (by kernel_rfl) (by kernel_rfl) (wanted_plain rfl) (.pointer (some ⟨gr, 0, none⟩)) (fun _ _ _ h => h) (fun W hW => Rec.run_nilCheck' (by rfl) (by simp [Act.eval])) ?_
  simp only [Act.put, List.getElem_toArray, List.getElem_cons_succ, List.getElem_cons_zero, List.setIfInBounds_toArray, List.set_cons_zero, List.set_cons_succ]
  refine p_take 8 (o := _) rfl (by kernel_rfl) (by kernel_rfl) (by kernel_rfl) (wanted_plain rfl) (.pointer (some ⟨gr, 1, none⟩)) (fun _ _ _ h => h) (fun W hW => run_fieldAddr (by rfl) (by simp [Act.eval]) (Rec.fieldR gr 1 (by omega))) ?_
  simp only [Act.put, List.getElem_toArray, List.getElem_cons_succ, List.getElem_cons_zero, List.setIfInBounds_toArray, List.set_cons_zero, List.set_cons_succ]
  refine p_take 9 (o := _) rfl (by kernel_rfl) (by kernel_rfl) (by kernel_rfl) (wanted_plain rfl) (.slice (some ⟨g, 0, none⟩) k c) (fun _ _ _ h => h) (fun W hW => Rec.run_load_c Rec.na_bytes (by rfl) _ _ (by simp [Act.eval]) (hW.1.1.br.cell 1)) ?_
  simp only [Act.put, List.getElem_toArray, List.getElem_cons_succ, List.getElem_cons_zero, List.setIfInBounds_toArray, List.set_cons_zero, List.set_cons_succ]
  refine p_take 10 (o := _) rfl (by kernel_rfl) (by kernel_rfl) (by kernel_rfl) (wanted_plain rfl) (.int .i64 (M : Int)) (fun _ _ _ h => h) (fun W hW => run_move (by rfl) (by simp [Act.eval]) W) ?_
  simp only [Act.put, List.getElem_toArray, List.getElem_cons_succ, List.getElem_cons_zero, List.setIfInBounds_toArray, List.set_cons_zero, List.set_cons_succ]
  refine p_take 11 (o := _) rfl (by kernel_rfl) (by kernel_rfl) (by kernel_rfl) (wanted_plain rfl) (.int .i64 (j : Int)) (fun _ _ _ h => h) (fun W hW => Rec.run_addN (by rfl) 5 M j Hj.out (by have := Hj.out; have := HMl.out; omega) (by simp [Act.eval]) (by simp [Act.eval])) ?_
  simp only [Act.put, List.getElem_toArray, List.getElem_cons_succ, List.getElem_cons_zero, List.setIfInBounds_toArray, List.set_cons_zero, List.set_cons_succ]
  refine p_take 12 (o := _) rfl (by kernel_rfl) (by kernel_rfl) (by kernel_rfl) (wanted_plain rfl) (.int .i64 (M : Int)) (fun _ _ _ h => h) (fun W hW => run_move (by rfl) (by simp [Act.eval]) W) ?_
  simp only [Act.put, List.getElem_toArray, List.getElem_cons_succ, List.getElem_cons_zero, List.setIfInBounds_toArray, List.set_cons_zero, List.set_cons_succ]
  refine p_take 13 (o := _) rfl (by kernel_rfl) (by kernel_rfl) (by kernel_rfl) (wanted_plain rfl) (.int .i64 (j : Int)) (fun _ _ _ h => h) (fun W hW => Rec.run_addN (by rfl) 5 M j Hj.out (by have := Hj.out; have := HMl.out; omega) (by simp [Act.eval]) (by simp [Act.eval])) ?_
  simp only [Act.put, List.getElem_toArray, List.getElem_cons_succ, List.getElem_cons_zero, List.setIfInBounds_toArray, List.set_cons_zero, List.set_cons_succ]
  refine p_take 14 (o := _) rfl (by kernel_rfl) (by kernel_rfl) (by kernel_rfl) (wanted_plain rfl) (.slice (some ⟨g, 5, none⟩) M M) (fun _ _ _ h => h) (fun W hW => Rec.run_slice_maxM (by rfl) Try.underlying24 u8_cell1 g k c 5 j M (by have := Hj.out; omega) (by simp [Act.eval]) (by simp [Act.eval]) (by simp [Act.eval]) (by simp [Act.eval]) (by have := Hj.out; have := HMl.out; omega) (by have := Hjk.out; omega)) ?_
  simp only [Act.put, List.getElem_toArray, List.getElem_cons_succ, List.getElem_cons_zero, List.setIfInBounds_toArray, List.set_cons_zero, List.set_cons_succ]
  refine p_one 5 (by kernel_rfl) (fun W hW _ => ?_)
  have r5 : ReadsB W W.heap.size (some ⟨g, 0, none⟩) 5 head := by rw [← Hhd.out]; exact hW.1.2.reads_any.2.take (by have := Hjk.out; have := Hj.out; omega)
  refine op_call (o := _) rfl (wanted_plain rfl) 41 _ _ rfl #[.slice (some ⟨g, 0, none⟩) 5 5] (by simp [Act.eval]) (Rec.enter_clone _) ?_
  refine (cloneB_any (some ⟨g, 0, none⟩) 5 5 head W r5 (by omega)).mono ?_
  rintro e W5 ⟨v8, rfl, own8, hE⟩
  obtain ⟨A8, c8, e8'⟩ := own8.slice
  rw [show head.length = 5 by rw [← Hhead.out]; exact Rec.hdr_len _ _] at e8'
  subst e8'
  refine ⟨_, rfl, Next.mk (fun W => ((Rec.RdAt W gr gl (.slice (some ⟨g, 0, none⟩) k c) skip quiet s Ak ck key iv seq ∧ OwnB W 0 (.slice (some ⟨g, 0, none⟩) k c) h) ∧ Below w.heap.size w W) ∧ OwnB W w.heap.size (.slice A8 5 c8) head) (fun _ => True) (fun _ h => h.1) ⟨⟨⟨hW.1.1.next hE, hW.1.2.later hE⟩, hW.2.trans (hE.mono hW.2.size)⟩, own8.low hW.2.size⟩ trivial ?_⟩
  clear hE hW own8 r5
  simp only [Act.put, List.getElem_toArray, List.getElem_cons_succ, List.getElem_cons_zero, List.setIfInBounds_toArray, List.set_cons_zero, List.set_cons_succ]
  refine p_one 15 (by kernel_rfl) (fun W hW _ => ?_)
  have rM : ReadsB W W.heap.size (some ⟨g, 5, none⟩) M sd := by
    have h1 := hW.1.1.2.reads_any.2.drop (k := 5) (c := c) (by have := Hjk.out; have := Hj.out; omega) hroom
    rw [if_neg (by have := Hjk.out; have := Hj.out; have := HMl.out; omega)] at h1
    have h2 := h1.take (k := M) (by have := Hjk.out; have := Hj.out; omega)
    rw [Hbd.out] at h2
    have e : (Option.map (fun x : Addr => x.add 5) (some ⟨g, 0, none⟩)) = some ⟨g, 5, none⟩ := by rw [Option.map_some, Addr.add_lit]
    rw [e] at h2
    exact h2
  refine op_call (o := _) rfl (wanted_plain rfl) 41 _ _ rfl #[.slice (some ⟨g, 5, none⟩) M M] (by simp [Act.eval]) (Rec.enter_clone _) ?_
  refine (cloneB_any (some ⟨g, 5, none⟩) M M sd W rM (by have := HMl.out; omega)).mono ?_
  rintro e W5 ⟨v9, rfl, own9, hE⟩
  obtain ⟨A9, c9, e9'⟩ := own9.slice
  rw [show sd.length = M by have := rM.len; exact this] at e9'
  subst e9'
  refine ⟨_, rfl, Next.mk (fun W => ((Rec.RdAt W gr gl (.slice (some ⟨g, 0, none⟩) k c) skip quiet s Ak ck key iv seq ∧ OwnB W 0 (.slice (some ⟨g, 0, none⟩) k c) h) ∧ Below w.heap.size w W) ∧ OwnB W w.heap.size (.slice A8 5 c8) head ∧ OwnB W w.heap.size (.slice A9 M c9) sd) (fun _ => True) (fun _ h => ⟨h.1, h.2.1⟩) ⟨⟨⟨hW.1.1.1.next hE, hW.1.1.2.later hE⟩, hW.1.2.trans (hE.mono hW.1.2.size)⟩, hW.2.later hE, own9.low hW.1.2.size⟩ trivial ?_⟩
  clear hE hW own9 rM
  simp only [Act.put, List.getElem_toArray, List.getElem_cons_succ, List.getElem_cons_zero, List.setIfInBounds_toArray, List.set_cons_zero, List.set_cons_succ]
  refine p_take 16 (o := _) rfl (by kernel_rfl) (by kernel_rfl) (by kernel_rfl) (wanted_plain rfl) (.slice A8 5 c8) (fun _ _ _ h => h) (fun W hW => run_assign (by rfl) (by simp [Act.eval]) W) ?_
  simp only [Act.put, List.getElem_toArray, List.getElem_cons_succ, List.getElem_cons_zero, List.setIfInBounds_toArray, List.set_cons_zero, List.set_cons_succ]
  refine p_take 17 (o := _) rfl (by kernel_rfl) (by kernel_rfl) (by kernel_rfl) (wanted_plain rfl) (.slice A9 M c9) (fun _ _ _ h => h) (fun W hW => run_assign (by rfl) (by simp [Act.eval]) W) ?_
  simp only [Act.put, List.getElem_toArray, List.getElem_cons_succ, List.getElem_cons_zero, List.setIfInBounds_toArray, List.set_cons_zero, List.set_cons_succ]
  refine (show ∀ z0, wpAnyV _ _ _ _ _ _ z0 _ _ _ from fun z0 => p_done (by kernel_rfl) (fun W1 H1 => ?_) z0) _
  obtain ⟨⟨⟨rd, ownh⟩, hB⟩, own8, own9⟩ := H1
  have c1 : W1.cell? ⟨gr, 1, none⟩ = some (.slice (some ⟨g, 0, none⟩) k c) := rd.br.cell 1
  go_wp2_with fail
  refine (delB_any 0 g k c j h W1 ownh (by have := Hj.out; omega) Hjk.out (by have := Hsz.out; omega)).mono ?_
  rintro e W2 ⟨rfl, own2, gr2, sz2⟩
  rw [Hrs.out] at own2
  have hgr : gr ≠ g := fun e => own_blk_ne ownh.own rd.br (by decide) (by rw [e]; rfl)
  have hgl : gl ≠ g := fun e => own_blk_ne ownh.own rd.lk.blk (by decide) (by rw [e]; rfl)
  have hglt : g < w.heap.size := by
    rcases Hown.out.size with h1 | ⟨g', h1, _, hlt⟩
    · cases h1
    · have : g' = g := by injection h1 with h1; exact h1.symm
      omega
  have far8 : ∀ (A : Option Addr) (m d : Nat) (l : List UInt8), OwnB W1 w.heap.size (.slice A m d) l → (Value.slice A m d).ownBlock ≠ some g := fun A m d l ho => by
    rcases ho.size with h1 | ⟨g', h1, hge, _⟩
    · rw [h1]; intro e; cases e
    · rw [h1]; intro e; injection e; omega
  have keyf := hkg
  have m0 : Rec.M3 w W2 gr g gl := (Rec.M3.of_below gr g gl ⟨hB.os, hB.tape, hB.output, hB.size, hB.block⟩).grown gr2
  have br2 := rd.br.grown gr2 (by intro e; injection e with e; exact hgr e)
  have lk2 : Rec.LkK W2 gl s Ak ck key iv seq := ⟨rd.lk.blk.grown gr2 (by intro e; injection e with e; exact hgl e), rd.lk.own.moved gr2 keyf, rd.lk.iv12⟩
  have own8 := own8.moved gr2 (far8 _ _ _ _ own8)
  have own9 := own9.moved gr2 (far8 _ _ _ _ own9)
  clear rd ownh c1 gr2 sz2
  have c1 : W2.cell? ⟨gr, 1, none⟩ = some (.slice (some ⟨g, 0, none⟩) k c) := br2.cell 1
  have f1 := br2.frozen 1
  obtain ⟨q, Hq⟩ : ∃ q, Hd (k - j = q) := ⟨_, ⟨rfl⟩⟩
  rw [Hq.out] at own2 ⊢
  have br3 : Blk (W2.setCell ⟨gr, 1, none⟩ (.slice (some ⟨g, 0, none⟩) q c)) gr 84 (Rec.rdc (.pointer (some ⟨gl, 0, none⟩)) (.slice (some ⟨g, 0, none⟩) q c) skip quiet 0) := br2.set_ 1 _
  have lk3 : Rec.LkK (W2.setCell ⟨gr, 1, none⟩ (.slice (some ⟨g, 0, none⟩) q c)) gl s Ak ck key iv seq := ⟨lk2.blk.far (p := ⟨gr, 1, none⟩) (lk2.blk.ne_ br2 (by decide)) _, lk2.own.far (own_blk_ne lk2.own.own br2 (by decide)) _, lk2.iv12⟩
  have own3 := own2.far (p := ⟨gr, 1, none⟩) (own_blk_ne own2.own br2 (by decide)) (.slice (some ⟨g, 0, none⟩) q c)
  have own8 := own8.far (p := ⟨gr, 1, none⟩) (own_blk_ne own8.own br2 (by decide)) (.slice (some ⟨g, 0, none⟩) q c)
  have own9 := own9.far (p := ⟨gr, 1, none⟩) (own_blk_ne own9.own br2 (by decide)) (.slice (some ⟨g, 0, none⟩) q c)
  have m3 := m0.set_ 1 (.slice (some ⟨g, 0, none⟩) q c)
  obtain ⟨W3, HW3⟩ : ∃ x, Hd (W2.setCell ⟨gr, 1, none⟩ (.slice (some ⟨g, 0, none⟩) q c) = x) := ⟨_, ⟨rfl⟩⟩
  have c0 : (W2.setCell ⟨gr, 1, none⟩ (.slice (some ⟨g, 0, none⟩) q c)).cell? ⟨gr, 0, none⟩ = some (.pointer (some ⟨gl, 0, none⟩)) := br3.cell 0
  have c0' : W2.cell? ⟨gr, 0, none⟩ = some (.pointer (some ⟨gl, 0, none⟩)) := br2.cell 0
  go_wp2
  rw [HW3.out] at br3 lk3 own3 own8 own9 m3 ⊢
  clear c0 c0' c1 f1 HW3 br2 lk2 own2
  refine p_start (fun W => (Rec.RdAt W gr gl (.slice (some ⟨g, 0, none⟩) q c) skip quiet s Ak ck key iv seq ∧ OwnB W 0 (.slice (some ⟨g, 0, none⟩) q c) rest ∧ Rec.M3 w W gr g gl) ∧ OwnB W w.heap.size (.slice A8 5 c8) head ∧ OwnB W w.heap.size (.slice A9 M c9) sd) (by kernel_rfl) ⟨⟨(Rec.RdAt.mk br3 lk3).next (Below.refl _ _).drew, own3.drew, m3.next (Below.refl _ _).drew⟩, own8.drew, own9.drew⟩ ?_
  clear br3 lk3 own3 own8 own9 m3
  refine p_take 0 (o := _) rfl (by kernel_rfl) (by kernel_rfl) (by kernel_rfl) (wanted_plain rfl) (.pointer (some ⟨gr, 0, none⟩)) (fun _ _ _ h => h) (fun W hW => run_move (by rfl) (by simp [Act.eval]) W) ?_
  simp only [Act.put, List.getElem_toArray, List.getElem_cons_succ, List.getElem_cons_zero, List.setIfInBounds_toArray, List.set_cons_zero, List.set_cons_succ]
  refine p_take 1 (o := _) rfl (by kernel_rfl) (by kernel_rfl) (by kernel_rfl) (wanted_plain rfl) (.pointer (some ⟨gr, 0, none⟩)) (fun _ _ _ h => h) (fun W hW => Rec.run_nilCheck' (by rfl) (by simp [Act.eval])) ?_
  simp only [Act.put, List.getElem_toArray, List.getElem_cons_succ, List.getElem_cons_zero, List.setIfInBounds_toArray, List.set_cons_zero, List.set_cons_succ]
  refine p_take 2 (o := _) rfl (by kernel_rfl) (by kernel_rfl) (by kernel_rfl) (wanted_plain rfl) (.pointer (some ⟨gr, 0, none⟩)) (fun _ _ _ h => h) (fun W hW => run_fieldAddr (by rfl) (by simp [Act.eval]) (Rec.fieldR gr 0 (by omega))) ?_
  simp only [Act.put, List.getElem_toArray, List.getElem_cons_succ, List.getElem_cons_zero, List.setIfInBounds_toArray, List.set_cons_zero, List.set_cons_succ]
  refine p_take 3 (o := _) rfl (by kernel_rfl) (by kernel_rfl) (by kernel_rfl) (wanted_plain rfl) (.pointer (some ⟨gl, 0, none⟩)) (fun _ _ _ h => h) (fun W hW => Rec.run_load_c Rec.na_lp (by rfl) _ _ (by simp [Act.eval]) (hW.1.1.br.cell 0)) ?_
  simp only [Act.put, List.getElem_toArray, List.getElem_cons_succ, List.getElem_cons_zero, List.setIfInBounds_toArray, List.set_cons_zero, List.set_cons_succ]
  refine p_take 4 (o := _) rfl (by kernel_rfl) (by kernel_rfl) (by kernel_rfl) (wanted_plain rfl) (.pointer (some ⟨gl, 0, none⟩)) (fun _ _ _ h => h) (fun W hW => Rec.run_nilCheck' (by rfl) (by simp [Act.eval])) ?_
  simp only [Act.put, List.getElem_toArray, List.getElem_cons_succ, List.getElem_cons_zero, List.setIfInBounds_toArray, List.set_cons_zero, List.set_cons_succ]
  refine p_take 5 (o := _) rfl (by kernel_rfl) (by kernel_rfl) (by kernel_rfl) (wanted_plain rfl) (.pointer (some ⟨gl, 0, none⟩)) (fun _ _ _ h => h) (fun W hW => run_fieldAddr (by rfl) (by simp [Act.eval]) (Rec.field0 _)) ?_
  simp only [Act.put, List.getElem_toArray, List.getElem_cons_succ, List.getElem_cons_zero, List.setIfInBounds_toArray, List.set_cons_zero, List.set_cons_succ]
  refine p_take 6 (o := _) rfl (by kernel_rfl) (by kernel_rfl) (by kernel_rfl) (wanted_plain rfl) (.int .u16 ((n16 s : Nat) : Int)) (fun _ _ _ h => h) (fun W hW => Rec.run_load_c Rec.na_suite (by rfl) _ _ (by simp [Act.eval]) hW.1.1.lk.c0) ?_
  simp only [Act.put, List.getElem_toArray, List.getElem_cons_succ, List.getElem_cons_zero, List.setIfInBounds_toArray, List.set_cons_zero, List.set_cons_succ]
  refine p_take 7 (o := _) rfl (by kernel_rfl) (by kernel_rfl) (by kernel_rfl) (wanted_plain rfl) (.pointer (some ⟨gr, 0, none⟩)) (fun _ _ _ h => h) (fun W hW => run_move (by rfl) (by simp [Act.eval]) W) ?_
  simp only [Act.put, List.getElem_toArray, List.getElem_cons_succ, List.getElem_cons_zero, List.setIfInBounds_toArray, List.set_cons_zero, List.set_cons_succ]
  refine p_take 8 (o := _) rfl (by kernel_rfl) (by kernel_rfl) (by kernel_rfl) (wanted_plain rfl) (.pointer (some ⟨gr, 0, none⟩)) (fun _ _ _ h => h) (fun W hW => Rec.run_nilCheck' (by rfl) (by simp [Act.eval])) ?_
  simp only [Act.put, List.getElem_toArray, List.getElem_cons_succ, List.getElem_cons_zero, List.setIfInBounds_toArray, List.set_cons_zero, List.set_cons_succ]
  refine p_take 9 (o := _) rfl (by kernel_rfl) (by kernel_rfl) (by kernel_rfl) (wanted_plain rfl) (.pointer (some ⟨gr, 0, none⟩)) (fun _ _ _ h => h) (fun W hW => run_fieldAddr (by rfl) (by simp [Act.eval]) (Rec.fieldR gr 0 (by omega))) ?_
  simp only [Act.put, List.getElem_toArray, List.getElem_cons_succ, List.getElem_cons_zero, List.setIfInBounds_toArray, List.set_cons_zero, List.set_cons_succ]
  refine p_take 10 (o := _) rfl (by kernel_rfl) (by kernel_rfl) (by kernel_rfl) (wanted_plain rfl) (.pointer (some ⟨gl, 0, none⟩)) (fun _ _ _ h => h) (fun W hW => Rec.run_load_c Rec.na_lp (by rfl) _ _ (by simp [Act.eval]) (hW.1.1.br.cell 0)) ?_
  simp only [Act.put, List.getElem_toArray, List.getElem_cons_succ, List.getElem_cons_zero, List.setIfInBounds_toArray, List.set_cons_zero, List.set_cons_succ]
  refine p_take 11 (o := _) rfl (by kernel_rfl) (by kernel_rfl) (by kernel_rfl) (wanted_plain rfl) (.pointer (some ⟨gl, 0, none⟩)) (fun _ _ _ h => h) (fun W hW => Rec.run_nilCheck' (by rfl) (by simp [Act.eval])) ?_
  simp only [Act.put, List.getElem_toArray, List.getElem_cons_succ, List.getElem_cons_zero, List.setIfInBounds_toArray, List.set_cons_zero, List.set_cons_succ]
  refine p_take 12 (o := _) rfl (by kernel_rfl) (by kernel_rfl) (by kernel_rfl) (wanted_plain rfl) (.pointer (some ⟨gl, 1, none⟩)) (fun _ _ _ h => h) (fun W hW => run_fieldAddr (by rfl) (by simp [Act.eval]) (Rec.field1 _)) ?_
  simp only [Act.put, List.getElem_toArray, List.getElem_cons_succ, List.getElem_cons_zero, List.setIfInBounds_toArray, List.set_cons_zero, List.set_cons_succ]
  refine p_take 13 (o := _) rfl (by kernel_rfl) (by kernel_rfl) (by kernel_rfl) (wanted_plain rfl) (.slice Ak key.length ck) (fun _ _ _ h => h) (fun W hW => Rec.run_load_c Rec.na_bytes (by rfl) _ _ (by simp [Act.eval]) hW.1.1.lk.c1) ?_
  simp only [Act.put, List.getElem_toArray, List.getElem_cons_succ, List.getElem_cons_zero, List.setIfInBounds_toArray, List.set_cons_zero, List.set_cons_succ]
  refine p_take 14 (o := _) rfl (by kernel_rfl) (by kernel_rfl) (by kernel_rfl) (wanted_plain rfl) (.pointer (some ⟨gr, 0, none⟩)) (fun _ _ _ h => h) (fun W hW => run_move (by rfl) (by simp [Act.eval]) W) ?_
  simp only [Act.put, List.getElem_toArray, List.getElem_cons_succ, List.getElem_cons_zero, List.setIfInBounds_toArray, List.set_cons_zero, List.set_cons_succ]
  refine p_take 15 (o := _) rfl (by kernel_rfl) (by kernel_rfl) (by kernel_rfl) (wanted_plain rfl) (.pointer (some ⟨gr, 0, none⟩)) (fun _ _ _ h => h) (fun W hW => Rec.run_nilCheck' (by rfl) (by simp [Act.eval])) ?_
  simp only [Act.put, List.getElem_toArray, List.getElem_cons_succ, List.getElem_cons_zero, List.setIfInBounds_toArray, List.set_cons_zero, List.set_cons_succ]
  refine p_take 16 (o := _) rfl (by kernel_rfl) (by kernel_rfl) (by kernel_rfl) (wanted_plain rfl) (.pointer (some ⟨gr, 0, none⟩)) (fun _ _ _ h => h) (fun W hW => run_fieldAddr (by rfl) (by simp [Act.eval]) (Rec.fieldR gr 0 (by omega))) ?_
  simp only [Act.put, List.getElem_toArray, List.getElem_cons_succ, List.getElem_cons_zero, List.setIfInBounds_toArray, List.set_cons_zero, List.set_cons_succ]
  refine p_take 17 (o := _) rfl (by kernel_rfl) (by kernel_rfl) (by kernel_rfl) (wanted_plain rfl) (.pointer (some ⟨gl, 0, none⟩)) (fun _ _ _ h => h) (fun W hW => Rec.run_load_c Rec.na_lp (by rfl) _ _ (by simp [Act.eval]) (hW.1.1.br.cell 0)) ?_
  simp only [Act.put, List.getElem_toArray, List.getElem_cons_succ, List.getElem_cons_zero, List.setIfInBounds_toArray, List.set_cons_zero, List.set_cons_succ]
  refine p_take 18 (o := _) rfl (by kernel_rfl) (by kernel_rfl) (by kernel_rfl) (wanted_plain rfl) (.pointer (some ⟨gl, 0, none⟩)) (fun _ _ _ h => h) (fun W hW => Rec.run_nilCheck' (by rfl) (by simp [Act.eval])) ?_
  simp only [Act.put, List.getElem_toArray, List.getElem_cons_succ, List.getElem_cons_zero, List.setIfInBounds_toArray, List.set_cons_zero, List.set_cons_succ]
  refine p_take 19 (o := _) rfl (by kernel_rfl) (by kernel_rfl) (by kernel_rfl) (wanted_plain rfl) (.pointer (some ⟨gl, 2, none⟩)) (fun _ _ _ h => h) (fun W hW => run_fieldAddr (by rfl) (by simp [Act.eval]) (Rec.field2 _)) ?_
  simp only [Act.put, List.getElem_toArray, List.getElem_cons_succ, List.getElem_cons_zero, List.setIfInBounds_toArray, List.set_cons_zero, List.set_cons_succ]
  refine p_take 20 (o := _) rfl (by kernel_rfl) (by kernel_rfl) (by kernel_rfl) (wanted_plain rfl) (.agg (arr iv)) (fun _ _ _ h => h) (fun W hW => run_load_arr (by rfl) (by simp [Act.eval]) ty12 iv hW.1.1.lk.iv12 hW.1.1.lk.civ) ?_
  simp only [Act.put, List.getElem_toArray, List.getElem_cons_succ, List.getElem_cons_zero, List.setIfInBounds_toArray, List.set_cons_zero, List.set_cons_succ]
  refine p_take 21 (o := _) rfl (by kernel_rfl) (by kernel_rfl) (by kernel_rfl) (wanted_plain rfl) (.pointer (some ⟨gr, 0, none⟩)) (fun _ _ _ h => h) (fun W hW => run_move (by rfl) (by simp [Act.eval]) W) ?_
  simp only [Act.put, List.getElem_toArray, List.getElem_cons_succ, List.getElem_cons_zero, List.setIfInBounds_toArray, List.set_cons_zero, List.set_cons_succ]
  refine p_take 22 (o := _) rfl (by kernel_rfl) (by kernel_rfl) (by kernel_rfl) (wanted_plain rfl) (.pointer (some ⟨gr, 0, none⟩)) (fun _ _ _ h => h) (fun W hW => Rec.run_nilCheck' (by rfl) (by simp [Act.eval])) ?_
  simp only [Act.put, List.getElem_toArray, List.getElem_cons_succ, List.getElem_cons_zero, List.setIfInBounds_toArray, List.set_cons_zero, List.set_cons_succ]
  refine p_take 23 (o := _) rfl (by kernel_rfl) (by kernel_rfl) (by kernel_rfl) (wanted_plain rfl) (.pointer (some ⟨gr, 0, none⟩)) (fun _ _ _ h => h) (fun W hW => run_fieldAddr (by rfl) (by simp [Act.eval]) (Rec.fieldR gr 0 (by omega))) ?_
  simp only [Act.put, List.getElem_toArray, List.getElem_cons_succ, List.getElem_cons_zero, List.setIfInBounds_toArray, List.set_cons_zero, List.set_cons_succ]
  refine p_take 24 (o := _) rfl (by kernel_rfl) (by kernel_rfl) (by kernel_rfl) (wanted_plain rfl) (.pointer (some ⟨gl, 0, none⟩)) (fun _ _ _ h => h) (fun W hW => Rec.run_load_c Rec.na_lp (by rfl) _ _ (by simp [Act.eval]) (hW.1.1.br.cell 0)) ?_
  simp only [Act.put, List.getElem_toArray, List.getElem_cons_succ, List.getElem_cons_zero, List.setIfInBounds_toArray, List.set_cons_zero, List.set_cons_succ]
  refine p_take 25 (o := _) rfl (by kernel_rfl) (by kernel_rfl) (by kernel_rfl) (wanted_plain rfl) (.pointer (some ⟨gl, 0, none⟩)) (fun _ _ _ h => h) (fun W hW => Rec.run_nilCheck' (by rfl) (by simp [Act.eval])) ?_
  simp only [Act.put, List.getElem_toArray, List.getElem_cons_succ, List.getElem_cons_zero, List.setIfInBounds_toArray, List.set_cons_zero, List.set_cons_succ]
  refine p_take 26 (o := _) rfl (by kernel_rfl) (by kernel_rfl) (by kernel_rfl) (wanted_plain rfl) (.pointer (some ⟨gl, 14, none⟩)) (fun _ _ _ h => h) (fun W hW => run_fieldAddr (by rfl) (by simp [Act.eval]) (Rec.field3 _)) ?_
  simp only [Act.put, List.getElem_toArray, List.getElem_cons_succ, List.getElem_cons_zero, List.setIfInBounds_toArray, List.set_cons_zero, List.set_cons_succ]
  refine p_take 27 (o := _) rfl (by kernel_rfl) (by kernel_rfl) (by kernel_rfl) (wanted_plain rfl) (.int .u64 ((n64 seq : Nat) : Int)) (fun _ _ _ h => h) (fun W hW => Rec.run_load_c Rec.na_u64 (by rfl) _ _ (by simp [Act.eval]) hW.1.1.lk.c14) ?_
  simp only [Act.put, List.getElem_toArray, List.getElem_cons_succ, List.getElem_cons_zero, List.setIfInBounds_toArray, List.set_cons_zero, List.set_cons_succ]
  refine p_take 29 (o := _) rfl (by kernel_rfl) (by kernel_rfl) (by kernel_rfl) (wanted_plain rfl) (.slice A8 5 c8) (fun _ _ _ h => h) (fun W hW => run_move (by rfl) (by simp [Act.eval]) W) ?_
  simp only [Act.put, List.getElem_toArray, List.getElem_cons_succ, List.getElem_cons_zero, List.setIfInBounds_toArray, List.set_cons_zero, List.set_cons_succ]
  refine p_take 30 (o := _) rfl (by kernel_rfl) (by kernel_rfl) (by kernel_rfl) (wanted_plain rfl) (.slice A9 M c9) (fun _ _ _ h => h) (fun W hW => run_move (by rfl) (by simp [Act.eval]) W) ?_
  simp only [Act.put, List.getElem_toArray, List.getElem_cons_succ, List.getElem_cons_zero, List.setIfInBounds_toArray, List.set_cons_zero, List.set_cons_succ]
  refine p_one 28 (by kernel_rfl) (fun W hW _ => ?_)
  refine op_call (o := _) rfl (wanted_plain rfl) 43 _ _ rfl #[.agg (arr iv), .int .u64 ((n64 seq : Nat) : Int)] (by simp [Act.eval]) (Rec.enter_nonce _) ?_
  refine (nonce_any iv hW.1.1.lk.iv12 seq W).mono ?_
  rintro e W5 ⟨rfl, hE⟩
  rw [Hnc.out]
  refine ⟨_, rfl, Next.mk (fun W => (Rec.RdAt W gr gl (.slice (some ⟨g, 0, none⟩) q c) skip quiet s Ak ck key iv seq ∧ OwnB W 0 (.slice (some ⟨g, 0, none⟩) q c) rest ∧ Rec.M3 w W gr g gl) ∧ OwnB W w.heap.size (.slice A8 5 c8) head ∧ OwnB W w.heap.size (.slice A9 M c9) sd) (fun _ => True) (fun _ h => h) ⟨⟨hW.1.1.next hE, hW.1.2.1.later hE, hW.1.2.2.next hE⟩, hW.2.1.later hE, hW.2.2.later hE⟩ trivial ?_⟩
  clear hE hW
  simp only [Act.put, List.getElem_toArray, List.getElem_cons_succ, List.getElem_cons_zero, List.setIfInBounds_toArray, List.set_cons_zero, List.set_cons_succ]
  refine p_one 31 (by kernel_rfl) (fun W hW _ => ?_)
  refine op_call (o := _) rfl (wanted_plain rfl) 11 _ _ rfl #[.int .u16 ((n16 s : Nat) : Int), .slice Ak key.length ck, .agg (arr nc), .slice A8 5 c8, .slice A9 M c9] (by simp [Act.eval]) (Rec.enter_open _) ?_
  refine (suiteOpen_ok s key.length (by rw [Hk.out]; exact Hs.out) Ak ck key nc Lnc.out A8 5 c8 head A9 M c9 sd W hW.1.1.lk.own.reads_any.2 (by have h1 := hW.2.1.reads_any; exact h1.2) hW.2.1.room (by have h1 := hW.2.2.reads_any; exact h1.2) hW.2.2.room (by have := HMl.out; omega)).mono ?_
  intro e W6 hO
  rw [Hopen.out] at hO
  obtain ⟨v, rfl, own, hE⟩ := hO
  have own := own.low (B' := w.heap.size) hW.1.2.2.size
  obtain ⟨A10, c10, e10⟩ := own.slice
  rw [Ltx.out] at e10
  subst e10
  refine ⟨_, rfl, Next.mk (fun W => (Rec.RdAt W gr gl (.slice (some ⟨g, 0, none⟩) q c) skip quiet s Ak ck key iv seq ∧ OwnB W 0 (.slice (some ⟨g, 0, none⟩) q c) rest ∧ Rec.M3 w W gr g gl) ∧ OwnB W w.heap.size (.slice A8 5 c8) head ∧ OwnB W w.heap.size (.slice A9 M c9) sd ∧ OwnB W w.heap.size (.slice A10 (n + 1 + R) c10) tx) (fun _ => True) (fun _ h => ⟨h.1, h.2.1, h.2.2.1⟩) ⟨⟨hW.1.1.next hE, hW.1.2.1.later hE, hW.1.2.2.next hE⟩, hW.2.1.later hE, hW.2.2.later hE, own⟩ trivial ?_⟩
  clear hE hW own
  simp only [Act.put, List.getElem_toArray, List.getElem_cons_succ, List.getElem_cons_zero, List.setIfInBounds_toArray, List.set_cons_zero, List.set_cons_succ]
  refine p_take 32 (o := _) rfl (by kernel_rfl) (by kernel_rfl) (by kernel_rfl) (wanted_plain rfl) (.tuple #[.slice A10 (n + 1 + R) c10, .int .i64 0]) (fun _ _ _ h => h) (fun W hW => run_move (by rfl) (by simp [Act.eval]) W) ?_
  simp only [Act.put, List.getElem_toArray, List.getElem_cons_succ, List.getElem_cons_zero, List.setIfInBounds_toArray, List.set_cons_zero, List.set_cons_succ]
  refine p_take 33 (o := _) rfl (by kernel_rfl) (by kernel_rfl) (by kernel_rfl) (wanted_plain rfl) (.slice A10 (n + 1 + R) c10) (fun _ _ _ h => h) (fun W hW => run_extract (by rfl) #[.slice A10 (n + 1 + R) c10, .int .i64 0] (.slice A10 (n + 1 + R) c10) (by simp [Act.eval]) (by rfl)) ?_
  simp only [Act.put, List.getElem_toArray, List.getElem_cons_succ, List.getElem_cons_zero, List.setIfInBounds_toArray, List.set_cons_zero, List.set_cons_succ]
  refine p_take 34 (o := _) rfl (by kernel_rfl) (by kernel_rfl) (by kernel_rfl) (wanted_plain rfl) (.int .i64 0) (fun _ _ _ h => h) (fun W hW => run_extract (by rfl) #[.slice A10 (n + 1 + R) c10, .int .i64 0] (.int .i64 0) (by simp [Act.eval]) (by rfl)) ?_
  simp only [Act.put, List.getElem_toArray, List.getElem_cons_succ, List.getElem_cons_zero, List.setIfInBounds_toArray, List.set_cons_zero, List.set_cons_succ]
  refine p_take 35 (o := _) rfl (by kernel_rfl) (by kernel_rfl) (by kernel_rfl) (wanted_plain rfl) (.slice A10 (n + 1 + R) c10) (fun _ _ _ h => h) (fun W hW => run_assign (by rfl) (by simp [Act.eval]) W) ?_
  simp only [Act.put, List.getElem_toArray, List.getElem_cons_succ, List.getElem_cons_zero, List.setIfInBounds_toArray, List.set_cons_zero, List.set_cons_succ]
  refine p_take 36 (o := _) rfl (by kernel_rfl) (by kernel_rfl) (by kernel_rfl) (wanted_plain rfl) (.int .i64 0) (fun _ _ _ h => h) (fun W hW => run_assign (by rfl) (by simp [Act.eval]) W) ?_
  simp only [Act.put, List.getElem_toArray, List.getElem_cons_succ, List.getElem_cons_zero, List.setIfInBounds_toArray, List.set_cons_zero, List.set_cons_succ]
  refine (show ∀ z0, wpAnyV _ _ _ _ _ _ z0 _ _ _ from fun z0 => p_done (by kernel_rfl) (fun W7 H => ?_) z0) _
  obtain ⟨⟨rd, ownr, m7⟩, _, _, own⟩ := H
  have hroom10 := own.room
  go_wp2_with fail
  refine (Rec.opened_any gr gl (.slice (some ⟨g, 0, none⟩) q c) skip quiet s Ak ck key iv seq A10 n R c10 b t W7 rd Hseq.out (by rw [← Htx2.out]; exact own.reads_any.2) hroom10 Hn.out Hsz.out.1 Hsz.out.2.1 Ht0.out Htc.out (fun ad hA => by
    subst hA
    exact ⟨fun e => own_blk_ne own.own rd.br (by decide) (by rw [← e]; rfl), fun e => own_blk_ne own.own rd.lk.blk (by decide) (by rw [← e]; rfl)⟩)).mono ?_
  rintro e W8 ⟨rfl, rd8, m8, sz8⟩
  have ownr8 := m8.own ownr (own_blk_ne ownr.own rd.br (by decide)) (.inl (own_blk_ne ownr.own rd.lk.blk (by decide)))
  have own8 := m8.own own (own_blk_ne own.own rd.br (by decide)) (.inl (own_blk_ne own.own rd.lk.blk (by decide)))
  have hrd8 : ReadsB W8 W8.heap.size A10 n b := by
    have h1 := own8.reads_any.2.take (k := n) (by omega)
    have h2 : tx.take n = b := by rw [Htx2.out, List.append_assoc, ← Hn.out]; exact List.take_left' rfl
    rw [h2] at h1
    exact h1
  go_wp2
  rw [Exit.noGoto_ret]
  refine bodyPost_ret (results_tmp4 rfl _ _ _) rfl ?_
  rw [Hq.out]
  exact ⟨A10, rfl, hrd8, rd8, ownr8, m7.mv m8⟩
theorem Rec.next_any (n0 : Nat) (s : UInt16) (hs : Suite.Ok s n0) (Ak : Option Addr) (ck : Nat) (key iv : List UInt8) (hk : key.length = n0) (seq : UInt64) (hseq : (seq + 1 == 0) = false) (gr gl g k c : Nat) (skip : Int) (quiet : Bool) (t : UInt8) (b rest : List UInt8) (n pad R : Nat) (w : World)
    (hrd : Rec.RdAt w gr gl (.slice (some ⟨g, 0, none⟩) k c) skip quiet s Ak ck key iv seq) (ho : OwnB w 0 (.slice (some ⟨g, 0, none⟩) k c) (Rec.recOf s key iv seq t b pad ++ rest)) (hkk : k ≤ 16645) (hn : b.length = n) (hn2 : n ≤ 16384) (hp : pad ≤ 255) (hR : R = min pad (16384 - n)) (ht0 : (t == 0) = false) (htc : t = 23 ∨ (0 < n ∧ (t = 21 ∨ t = 22))) (hkg : (Value.slice Ak key.length ck).ownBlock ≠ some g) :
    Calls Try.prog 24 #[.pointer (some ⟨gr, 0, none⟩)] w fun e w' => ∃ A2, e = .returned (.tuple #[.int .u8 ((n8 t : Nat) : Int), .slice A2 n n, .bool true, .int .i64 0]) ∧ ReadsB w' w'.heap.size A2 n b ∧ Rec.RdAt w' gr gl (.slice (some ⟨g, 0, none⟩) (k - (5 + (n + 1 + R + 16))) c) 0 quiet s Ak ck key iv (seq + 1) ∧ OwnB w' 0 (.slice (some ⟨g, 0, none⟩) (k - (5 + (n + 1 + R + 16))) c) rest ∧ Rec.M3 w w' gr g gl := by
  by_cases hq : 16384 < n + 1 + R + 16
  · exact Rec.next_T n0 s hs Ak ck key iv hk seq hseq gr gl g k c skip quiet t b rest n pad R w hrd ho hkk hn hn2 hp hR ht0 htc hkg hq
  · exact Rec.next_F n0 s hs Ak ck key iv hk seq hseq gr gl g k c skip quiet t b rest n pad R w hrd ho hkk hn hn2 hp hR ht0 htc hkg hq
end Go.Proofs.Ytbcboldepghgpaa
