/-
  The walk of a block of chacha's stream.
-/
import Derived.Test.YthigbggacgiamaaDoorChaA
import Derived.Test.YthigbggacgiamaaDoorJa
import Derived.Laws.CopyOwn
set_option linter.unusedVariables false
set_option linter.unusedSimpArgs false
set_option maxRecDepth 100000
namespace Go.Proofs.YthigbggacgiamaaDoor
open Go.RowKit
theorem run_store_func {P : Program} {w : World} {a : Addr} {m : _} (fn : Fn) (x y : Array Value) : (store a (.func fn x y) m).run P w = stored P w a (.func fn x y) m := run_store P w a _ m rfl
attribute [go_sem] run_store_func
namespace Cha
theorem zeroW : (Tryd.prog.info? 144).bind (·.zero) = some (.agg (row (List.replicate 16 0))) := by kernel_rfl
theorem zero64 : (Tryd.prog.info? 126).bind (·.zero) = some (.agg (arr (List.replicate 64 0))) := by kernel_rfl
theorem aggW : AggT Tryd.prog 144 16 := ⟨by kernel_rfl, by kernel_rfl⟩
theorem agg64 : AggT Tryd.prog 126 64 := ⟨by kernel_rfl, by kernel_rfl⟩
theorem u32_one : (Tryd.prog.info? 32).map (·.size) = some 1 := by kernel_rfl
theorem run_slice32 {w : World} {o : Oper} {ρ : Operand → Value} {x : Operand} (ho : o.op = .slice 23 x none none none) (z : Nat) (hx : ρ x = .pointer (some ⟨z, 0, none⟩)) : (execOp ρ o).run Tryd.prog w = .ok (.value (.slice (some ⟨z, 0, none⟩) 32 32)) w := by
  have hs : (Tryd.prog.info? 5).map (·.size) = some 1 := by kernel_rfl
  unfold execOp
  simp only [ho, hx]
  simp [go_sem, Instr.sliceAt, Instr.slice, Instr.sliceBounds, Instr.sliceBound, run_underlying Tryd.underlying23, run_sizeOf hs, asIntOf, Addr.add_zero']
theorem run_slice12 {w : World} {o : Oper} {ρ : Operand → Value} {x : Operand} (ho : o.op = .slice 27 x none none none) (z : Nat) (hx : ρ x = .pointer (some ⟨z, 0, none⟩)) : (execOp ρ o).run Tryd.prog w = .ok (.value (.slice (some ⟨z, 0, none⟩) 12 12)) w := by
  have hs : (Tryd.prog.info? 5).map (·.size) = some 1 := by kernel_rfl
  unfold execOp
  simp only [ho, hx]
  simp [go_sem, Instr.sliceAt, Instr.slice, Instr.sliceBounds, Instr.sliceBound, run_underlying Tryd.underlying27, run_sizeOf hs, asIntOf, Addr.add_zero']
theorem run_slice4 {w : World} {o : Oper} {ρ : Operand → Value} {x : Operand} (ho : o.op = .slice 144 x (some (.const (.int .i64 4))) none none) (hc : ∀ v, ρ (.const v) = v) (z : Nat) (hx : ρ x = .pointer (some ⟨z, 0, none⟩)) : (execOp ρ o).run Tryd.prog w = .ok (.value (.slice (some ⟨z, 4, none⟩) 12 12)) w := by
  have hs : (Tryd.prog.info? 32).map (·.size) = some 1 := by kernel_rfl
  unfold execOp
  simp only [ho, hx]
  simp [go_sem, Instr.sliceAt, Instr.slice, Instr.sliceBounds, Instr.sliceBound, run_underlying Tryd.underlying144, run_sizeOf hs, asIntOf, Addr.add_zero', hc, Addr.add]
theorem run_slice13 {w : World} {o : Oper} {ρ : Operand → Value} {x : Operand} (ho : o.op = .slice 144 x (some (.const (.int .i64 13))) none none) (hc : ∀ v, ρ (.const v) = v) (z : Nat) (hx : ρ x = .pointer (some ⟨z, 0, none⟩)) : (execOp ρ o).run Tryd.prog w = .ok (.value (.slice (some ⟨z, 13, none⟩) 3 3)) w := by
  have hs : (Tryd.prog.info? 32).map (·.size) = some 1 := by kernel_rfl
  unfold execOp
  simp only [ho, hx]
  simp [go_sem, Instr.sliceAt, Instr.slice, Instr.sliceBounds, Instr.sliceBound, run_underlying Tryd.underlying144, run_sizeOf hs, asIntOf, Addr.add_zero', hc, Addr.add]
/-- Words copied into a row of words. -/
theorem run_copyW {w : World} {o : Oper} {ρ : Operand → Value} {d s : Operand} (ho : o.op = .call { callee := .builtin .copy, args := #[d, s], argTypes := #[109, 109] })
    (g off : Nat) (t : TypeId) (dst l : List W) (k n : Nat) (hd : ρ d = .slice (some ⟨g, off, none⟩) k k) (hb : Blk w g t (row dst)) (h : Nat) (hs : ρ s = .slice (some ⟨h, 0, none⟩) n n) (t' : TypeId) (hh : Blk w h t' (row l)) (hl : l.length = n) (hnk : n ≤ k) (hle : off + n ≤ dst.length) :
    (execOp ρ o).run Tryd.prog w = .ok (.value (.int .i64 (n : Int))) (w.setRow g (row (dst.take off ++ l ++ dst.drop (off + n)))) := by
  have hk : (l.map V).length = n := by rw [List.length_map, hl]
  have hlen : (l.map V).length = Nat.min n k := by rw [hk]; exact (Nat.min_eq_left hnk).symm
  have hrun := run_copy_row (P := Tryd.prog) w 109 109 o.type 32 g off k k ⟨h, 0, none⟩ n n (row dst) t (l.map V) Tryd.underlying109 u32_one hb.is hlen
    (fun j v hv => by
      have e : (⟨h, 0, none⟩ : Addr).add j = ⟨h, j, none⟩ := by rw [Addr.add_lit, Nat.zero_add]
      rw [e, hh.cell, row, List.getElem?_toArray]
      exact hv) (by rw [hk, row_size]; omega) (by intro v hv; obtain ⟨x, _, rfl⟩ := List.mem_map.1 hv; rfl)
  unfold execOp
  simp only [ho, resolve, invoke, builtin, Sem.run_bind, Sem.run_pure, Result.andThen_ok, List.map_toArray, List.map_cons, List.map_nil, hd, hs, hrun]
  have e1 : goInt (l.map V).length = .int .i64 (n : Int) := by rw [hk]; rfl
  have e2 : ((row dst).toList.take off ++ l.map V ++ (row dst).toList.drop (off + (l.map V).length)).toArray = row (dst.take off ++ l ++ dst.drop (off + n)) := by
    rw [hk]
    unfold row
    simp [List.map_take, List.map_drop]
  rw [e1, e2]
theorem and3 (p : Nat) (h : p < 8) : bits .and .i64 (p : Int) 3 = ((p % 4 : Nat) : Int) := by
  rcases (show p = 0 ∨ p = 1 ∨ p = 2 ∨ p = 3 ∨ p = 4 ∨ p = 5 ∨ p = 6 ∨ p = 7 by omega) with rfl | rfl | rfl | rfl | rfl | rfl | rfl | rfl <;> decide
def endTo (s w : List W) (i : Nat) : List UInt8 := (List.range 64).map fun k => if k < i then (shr32 (at_ w (k / 4) + at_ s (k / 4)) (8 * (k % 4))).toUInt8 else 0
theorem endTo_len (s w : List W) (i : Nat) : (endTo s w i).length = 64 := by simp [endTo]
theorem endTo_none (s w : List W) : endTo s w 0 = List.replicate 64 0 := by
  have h : endTo s w 0 = (List.range 64).map fun _ => (0 : UInt8) := by
    unfold endTo
    apply List.map_congr_left
    intro j _
    rw [if_neg (Nat.not_lt_zero _)]
  rw [h, List.map_const', List.length_range]
theorem endTo_all (s w : List W) : endTo s w 64 = ended s w := by
  unfold endTo ended
  apply List.map_congr_left
  intro j hj
  rw [if_pos (by simpa using hj)]
theorem endTo_next (s w : List W) (i : Nat) : (endTo s w i).set i (shr32 (at_ w (i / 4) + at_ s (i / 4)) (8 * (i % 4))).toUInt8 = endTo s w (i + 1) := by
  unfold endTo
  apply List.ext_getElem
  · simp
  · intro j h1 h2
    have hj : j < 64 := by simpa using h2
    rw [List.getElem_set, List.getElem_map, List.getElem_map, List.getElem_range]
    by_cases e : i = j
    · subst e; rw [if_pos rfl, if_pos (Nat.lt_succ_self _)]
    · rw [if_neg e]
      by_cases e2 : j < i
      · rw [if_pos e2, if_pos (by omega)]
      · rw [if_neg e2, if_neg (by omega)]
theorem col_len (k : Nat) (s : List W) : (col k s).length = s.length := quarter_len _ _ _ _ _
theorem diag_len (k : Nat) (s : List W) : (diag k s).length = s.length := quarter_len _ _ _ _ _
theorem double_len (k : Nat) (s : List W) : (double k s).length = s.length := by unfold double; rw [iter_keeps diag List.length diag_len, iter_keeps col List.length col_len]
theorem enter_words (args : Array Value) (w : World) : (callFunc 75 args).run Tryd.prog w = .ok (.enter 75 args) w := by kernel_rfl
def consts : List W := [0x61707865, 0x3320646e, 0x79622d32, 0x6b206574]
def s1 : List W := consts ++ List.replicate 12 0
def s2 (key : List UInt8) : List W := consts ++ words key 8 ++ [0, 0, 0, 0]
def s3 (key : List UInt8) (c : W) : List W := consts ++ words key 8 ++ [c, 0, 0, 0]
theorem s2_is (key : List UInt8) : s1.take 4 ++ words key 8 ++ s1.drop (4 + 8) = s2 key := rfl
theorem s2_len (key : List UInt8) : (s2 key).length = 16 := by simp [s2, consts, words_len]
theorem s3_len (key : List UInt8) (c : W) : (s3 key c).length = 16 := by simp [s3, consts, words_len]
theorem s3_is (key : List UInt8) (c : W) : (s2 key).set 12 c = s3 key c := by
  have h : (consts ++ words key 8).length = 12 := by simp [consts, words_len]
  unfold s2 s3
  rw [List.set_append_right _ _ (by omega), h]
  rfl
theorem start_is (key nonce : List UInt8) (c : W) : (s3 key c).take 13 ++ words nonce 3 ++ (s3 key c).drop (13 + 3) = start key c nonce := by
  have h : (consts ++ words key 8 ++ [c]).length = 13 := by simp [consts, words_len]
  have e : s3 key c = (consts ++ words key 8 ++ [c]) ++ [0, 0, 0] := by simp [s3]
  have e1 : (s3 key c).take 13 = consts ++ words key 8 ++ [c] := by rw [e, List.take_append_of_le_length (by omega), List.take_of_length_le (by omega)]
  rw [e1, List.drop_of_length_le (by rw [s3_len]; omega), List.append_nil]
  rfl
/-- What a block's walk holds. -/
structure St (w : World) (key nonce : List UInt8) (s : List W) (w1 : World) : Prop where
  bk : Blk w1 w.heap.size 23 (arr key)
  bn : Blk w1 (w.heap.size + 1) 27 (arr nonce)
  bo : Blk w1 (w.heap.size + 1 + 1) 126 (arr (List.replicate 64 0))
  bs : Blk w1 (w.heap.size + 1 + 1 + 1) 144 (row s)
  old : Below w.heap.size w w1
section
variable {w w1 w2 : World} {key nonce : List UInt8} {s : List W}
theorem St.next (h : St w key nonce s w1) (hb : Below w1.heap.size w1 w2) : St w key nonce s w2 :=
  ⟨h.bk.below hb h.bk.lt, h.bn.below hb h.bn.lt, h.bo.below hb h.bo.lt, h.bs.below hb h.bs.lt, h.old.trans (hb.mono h.old.size)⟩
theorem St.put (h : St w key nonce s w1) (s' : List W) : St w key nonce s' (w1.setRow (w.heap.size + 1 + 1 + 1) (row s')) :=
  ⟨h.bk.farRow (by omega) _, h.bn.farRow (by omega) _, h.bo.farRow (by omega) _, h.bs.setRow _, below_setRow h.old (by omega) _⟩
theorem St.far (h : St w key nonce s w1) {y : Nat} (hy : w.heap.size + 1 + 1 + 1 < y) (cs : Array Value) : St w key nonce s (w1.setRow y cs) :=
  ⟨h.bk.farRow (by omega) _, h.bn.farRow (by omega) _, h.bo.farRow (by omega) _, h.bs.farRow (by omega) _, below_setRow h.old (by omega) _⟩
theorem St.set_ (h : St w key nonce s w1) (i : Nat) (x : W) : St w key nonce (s.set i x) (w1.setCell ⟨w.heap.size + 1 + 1 + 1, i, none⟩ (.int .u32 ((n32 x : Nat) : Int))) :=
  ⟨h.bk.far (by simp only []; omega) _, h.bn.far (by simp only []; omega) _, h.bo.far (by simp only []; omega) _, Blk.setW h.bs i x, h.old.setCell (by simp only []; omega) _⟩
end
theorem St.far2 {w w1 : World} {key nonce : List UInt8} {s : List W} (h : St w key nonce s w1) {y : Nat} (hy : w.heap.size + 1 + 1 + 1 < y) (i : Nat) (u : Value) : St w key nonce s (w1.setCell ⟨y, i, none⟩ u) :=
  ⟨h.bk.far (by simp only []; omega) _, h.bn.far (by simp only []; omega) _, h.bo.far (by simp only []; omega) _, h.bs.far (by simp only []; omega) _, h.old.setCell (by simp only []; omega) _⟩
/-- .. with what was, and the half. -/
structure St2 (w : World) (key nonce : List UInt8) (s0 : List W) (y : Nat) (s : List W) (w1 : World) : Prop where
  st : St w key nonce s w1
  bw : Blk w1 y 144 (row s0)
  bz : Blk w1 (y + 1) 147 #[halfV (w.heap.size + 1 + 1 + 1)]
theorem St2.step {w w1 w2 : World} {key nonce : List UInt8} {s0 s s' : List W} {y : Nat} (h : St2 w key nonce s0 y s w1) (hy : w.heap.size + 1 + 1 + 1 < y) (hb : Blk w2 (w.heap.size + 1 + 1 + 1) 144 (row s')) (hg : w1.grownBy w2 (some (w.heap.size + 1 + 1 + 1))) : St2 w key nonce s0 y s' w2 :=
  ⟨⟨h.st.bk.grown hg (by simp <;> omega), h.st.bn.grown hg (by simp <;> omega), h.st.bo.grown hg (by simp <;> omega), hb, below_moved h.st.old hg (by omega) h.st.old.size⟩, h.bw.grown hg (by simp <;> omega), h.bz.grown hg (by simp <;> omega)⟩
theorem blk_reads {w : World} {g B n : Nat} {t : TypeId} {l : List UInt8} (h : Blk w g t (arr l)) (hl : l.length = n) (hg : g < B) : ReadsB w B (some ⟨g, 0, none⟩) n l :=
  ⟨hl, ⟨by rw [List.length_map, hl, Nat.mul_one], fun _ => ⟨_, rfl, hg, fun i u hu => by
    rw [Addr.add_lit, Nat.zero_add, h.cell, ← hu]
    simp [arr]⟩⟩⟩
theorem run_copyW' {w : World} {o : Oper} {ρ : Operand → Value} {d s : Operand} (ho : o.op = .call { callee := .builtin .copy, args := #[d, s], argTypes := #[109, 109] })
    (g off : Nat) (t : TypeId) (dst l r : List W) (k n : Nat) (hd : ρ d = .slice (some ⟨g, off, none⟩) k k) (hb : Blk w g t (row dst)) (h : Nat) (hs : ρ s = .slice (some ⟨h, 0, none⟩) n n) (t' : TypeId) (hh : Blk w h t' (row l)) (hl : l.length = n) (hnk : n ≤ k) (hle : off + n ≤ dst.length)
    (hr : dst.take off ++ l ++ dst.drop (off + n) = r) : (execOp ρ o).run Tryd.prog w = .ok (.value (.int .i64 (n : Int))) (w.setRow g (row r)) := by
  rw [← hr]; exact run_copyW ho g off t dst l k n hd hb h hs t' hh hl hnk hle
end Cha
set_option maxHeartbeats 8000000 in
set_option maxRecDepth 100000 in
theorem Cha.block_any (key nonce : List UInt8) (count : UInt32) (hk : key.length = 32) (hn : nonce.length = 12) (w : World) :
    Calls Tryd.prog 63 #[.agg (arr key), .int .u32 ((n32 count : Nat) : Int), .agg (arr nonce)] w fun e w' => e = .returned (.agg (arr (Cha.block key count nonce))) ∧ Below w.heap.size w w' := by
  have HK := hd hk
  have HN := hd hn
  clear hk hn
  obtain ⟨s0, Hs0⟩ : ∃ s, Hd (Cha.start key count nonce = s) := ⟨_, ⟨rfl⟩⟩
  have L0 := hd (show s0.length = 16 by rw [← Hs0.out, Cha.start_len])
  have Hbl := hd (show Cha.block key count nonce = Cha.ended s0 (Cha.rounds s0) by rw [← Hs0.out]; rfl)
  rw [Hbl.out]
  go_enter Tryd.func63, Tryd.ntmps63
  go_wp2_with (first
    | (refine wpl_alloc rfl 126 rfl _ Cha.zero64 ?_)
    | (refine wpl_build rfl 144 [(0, .const (.int .u32 1634760805)), (1, .const (.int .u32 857760878)), (2, .const (.int .u32 2036477234)), (3, .const (.int .u32 1797285236))] rfl [(0, .int .u32 1634760805), (1, .int .u32 857760878), (2, .int .u32 2036477234), (3, .int .u32 1797285236)] rfl (Cha.row Cha.s1) (by kernel_rfl) ?_)
    | (refine wpl_alloc rfl 144 rfl _ Cha.zeroW ?_; simp only [World.size_alloc]; refine wpl_name (Cha.St w key nonce (List.replicate 16 0)) ⟨(((Blk.nu rfl).alloc _).alloc _).alloc _, ((Blk.nu (by simp)).alloc _).alloc _, (Blk.nu (by simp)).alloc _, Blk.nu (by simp), ((((Below.refl _ _).alloc (by simp) _).alloc (by simp) _).alloc (by simp <;> omega) _).alloc (by simp <;> omega) _⟩ ?_; intro W1 H1)
    | (refine wpl_store rfl 144 _ _ rfl (w.heap.size + 1 + 1 + 1) 0 (Cha.s1.map Cha.V) rfl rfl 144 _ H1.bs (by kernel_rfl) (by decide) (by simp [Cha.V, Value.oneCell']) ?_; rw [splice_all _ _ (by rfl)]; refine wpl_name (Cha.St w key nonce Cha.s1) (H1.put Cha.s1) ?_; clear H1; intro W1 H1))
  refine v_start (S := PW) PR ((fun _ => True), Cha.St w key nonce Cha.s1) (by kernel_rfl) ⟨trivial, H1.next (Below.refl _ _).drew⟩ ?_
  simp only [Act.put, List.getElem_toArray, List.getElem_cons_succ, List.getElem_cons_zero, List.setIfInBounds_toArray, List.set_cons_zero, List.set_cons_succ]
  refine p_take 0 (o := _) rfl (by kernel_rfl) (by kernel_rfl) (by kernel_rfl) (wanted_plain rfl) (.slice (some ⟨w.heap.size + 1 + 1 + 1, 4, none⟩) 12 12) (fun _ _ _ h => h) (fun W hW => Cha.run_slice4 (by rfl) (by intro v; rfl) (w.heap.size + 1 + 1 + 1) (by simp [Act.eval])) ?_
  simp only [Act.put, List.getElem_toArray, List.getElem_cons_succ, List.getElem_cons_zero, List.setIfInBounds_toArray, List.set_cons_zero, List.set_cons_succ]
  refine p_take 1 (o := _) rfl (by kernel_rfl) (by kernel_rfl) (by kernel_rfl) (wanted_plain rfl) (.slice (some ⟨w.heap.size, 0, none⟩) 32 32) (fun _ _ _ h => h) (fun W hW => Cha.run_slice32 (by rfl) (w.heap.size) (by simp [Act.eval])) ?_
  simp only [Act.put, List.getElem_toArray, List.getElem_cons_succ, List.getElem_cons_zero, List.setIfInBounds_toArray, List.set_cons_zero, List.set_cons_succ]
  clear H1
  refine p_one 2 (by kernel_rfl) (fun W1 _ H1 => ?_)
  refine op_call (o := _) rfl (wanted_plain rfl) 75 _ _ rfl #[.slice (some ⟨w.heap.size, 0, none⟩) 32 32] (by simp [Act.eval]) (Cha.enter_words _) ?_
  refine (Cha.words_any (some ⟨w.heap.size, 0, none⟩) 32 8 32 key W1 rfl (by omega) (Cha.blk_reads H1.bk HK.out H1.bk.lt) (Nat.le_refl _)).mono ?_
  rintro e W2 ⟨z, rfl, bz, hz, hE⟩
  refine ⟨_, rfl, Next.mk (fun _ => True) (fun W => Cha.St w key nonce Cha.s1 W ∧ Blk W z 32 (Cha.row (Cha.words key 8))) (fun _ h => h) trivial ⟨H1.next hE, bz⟩ ?_⟩
  clear H1 bz hE hz
  simp only [Act.put, List.getElem_toArray, List.getElem_cons_succ, List.getElem_cons_zero, List.setIfInBounds_toArray, List.set_cons_zero, List.set_cons_succ]
  refine p_one 3 (by kernel_rfl) (fun W1 _ H1 => ?_)
  refine op_do (o := _) rfl (wanted_plain rfl) (.int .i64 8) _ (Cha.run_copyW' (by rfl) (w.heap.size + 1 + 1 + 1) 4 144 (Cha.s1) (Cha.words key 8) (Cha.s2 key) 12 8 (by simp [Act.eval]) H1.1.bs z (by simp [Act.eval]) 32 H1.2 (Cha.words_len _ _) (by omega) (by decide) (Cha.s2_is key)) ?_
  refine Next.mk (fun _ => True) (Cha.St w key nonce (Cha.s2 key)) (fun _ h => h) trivial (H1.1.put _) ?_
  clear H1
  simp only [Act.put, List.getElem_toArray, List.getElem_cons_succ, List.getElem_cons_zero, List.setIfInBounds_toArray, List.set_cons_zero, List.set_cons_succ]
  refine (show ∀ n, wpAnyV _ _ _ _ _ _ n _ _ _ from fun n => v_done (by kernel_rfl) (fun W1 H1 => ?_) n) _
  have H1 := H1.2
  have f12 := H1.bs.frozen 12
  have c12 := Cha.Blk.cellW H1.bs 12 (by rw [Cha.s2_len]; omega)
  have H2 := H1.set_ 12 count
  rw [Cha.s3_is] at H2
  go_wp2
  refine wp_name (Cha.St w key nonce (Cha.s3 key count)) H2 ?_
  clear f12 c12 H1 H2
  intro W1 H1
  refine v_start (S := PW) PR ((fun _ => True), Cha.St w key nonce (Cha.s3 key count)) (by kernel_rfl) ⟨trivial, H1.next (Below.refl _ _).drew⟩ ?_
  refine p_take 0 (o := _) rfl (by kernel_rfl) (by kernel_rfl) (by kernel_rfl) (wanted_plain rfl) (.slice (some ⟨w.heap.size + 1 + 1 + 1, 13, none⟩) 3 3) (fun _ _ _ h => h) (fun W hW => Cha.run_slice13 (by rfl) (by intro v; rfl) (w.heap.size + 1 + 1 + 1) (by simp [Act.eval])) ?_
  simp only [Act.put, List.getElem_toArray, List.getElem_cons_succ, List.getElem_cons_zero, List.setIfInBounds_toArray, List.set_cons_zero, List.set_cons_succ]
  refine p_take 1 (o := _) rfl (by kernel_rfl) (by kernel_rfl) (by kernel_rfl) (wanted_plain rfl) (.slice (some ⟨w.heap.size + 1, 0, none⟩) 12 12) (fun _ _ _ h => h) (fun W hW => Cha.run_slice12 (by rfl) (w.heap.size + 1) (by simp [Act.eval])) ?_
  simp only [Act.put, List.getElem_toArray, List.getElem_cons_succ, List.getElem_cons_zero, List.setIfInBounds_toArray, List.set_cons_zero, List.set_cons_succ]
  clear H1
  refine p_one 2 (by kernel_rfl) (fun W1 _ H1 => ?_)
  refine op_call (o := _) rfl (wanted_plain rfl) 75 _ _ rfl #[.slice (some ⟨w.heap.size + 1, 0, none⟩) 12 12] (by simp [Act.eval]) (Cha.enter_words _) ?_
  refine (Cha.words_any (some ⟨w.heap.size + 1, 0, none⟩) 12 3 12 nonce W1 rfl (by omega) (Cha.blk_reads H1.bn HN.out H1.bn.lt) (Nat.le_refl _)).mono ?_
  rintro e W2 ⟨z, rfl, bz, hz, hE⟩
  refine ⟨_, rfl, Next.mk (fun _ => True) (fun W => Cha.St w key nonce (Cha.s3 key count) W ∧ Blk W z 32 (Cha.row (Cha.words nonce 3))) (fun _ h => h) trivial ⟨H1.next hE, bz⟩ ?_⟩
  clear H1 bz hE hz
  simp only [Act.put, List.getElem_toArray, List.getElem_cons_succ, List.getElem_cons_zero, List.setIfInBounds_toArray, List.set_cons_zero, List.set_cons_succ]
  refine p_one 3 (by kernel_rfl) (fun W1 _ H1 => ?_)
  refine op_do (o := _) rfl (wanted_plain rfl) (.int .i64 3) _ (Cha.run_copyW' (by rfl) (w.heap.size + 1 + 1 + 1) 13 144 (Cha.s3 key count) (Cha.words nonce 3) (Cha.start key count nonce) 3 3 (by simp [Act.eval]) H1.1.bs z (by simp [Act.eval]) 32 H1.2 (Cha.words_len _ _) (by omega) (by rw [Cha.s3_len]; omega) (Cha.start_is key nonce count)) ?_
  refine Next.mk (fun _ => True) (Cha.St w key nonce (Cha.start key count nonce)) (fun _ h => h) trivial (H1.1.put _) ?_
  clear H1
  simp only [Act.put, List.getElem_toArray, List.getElem_cons_succ, List.getElem_cons_zero, List.setIfInBounds_toArray, List.set_cons_zero, List.set_cons_succ]
  refine (show ∀ n, wpAnyV _ _ _ _ _ _ n _ _ _ from fun n => v_done (by kernel_rfl) (fun W1 H1 => ?_) n) _
  have H1 := H1.2
  rw [Hs0.out] at H1
  obtain ⟨y, Hy⟩ : ∃ y, Hd (W1.heap.size = y) := ⟨_, ⟨rfl⟩⟩
  have hy := H1.bs.lt
  rw [Hy.out] at hy
  go_wp2_with (first
    | (refine wpl_load rfl 144 _ rfl ⟨w.heap.size + 1 + 1 + 1, 0, none⟩ rfl 16 Cha.aggW (s0.map Cha.V) (by rw [List.length_map, L0.out]) H1.bs.cells ?_)
    | (refine wpl_alloc rfl 144 rfl _ Cha.zeroW ?_; rw [Hy.out])
    | (refine wpl_store rfl 144 _ _ rfl y 0 (s0.map Cha.V) rfl rfl 144 _ (Blk.nu Hy.out.symm) (by rw [List.length_map, L0.out]; kernel_rfl) (by rw [List.length_map, L0.out]; decide) (by simp [Cha.V, Value.oneCell']) ?_; rw [splice_all _ _ (by rw [List.length_map, L0.out]; rfl)]; refine wpl_name (fun W => Cha.St w key nonce s0 W ∧ Blk W y 144 (Cha.row s0) ∧ W.heap.size = y + 1) ⟨((H1.next ((Below.refl _ _).alloc (Nat.le_refl _) _)).far hy _), (Blk.nu Hy.out.symm).setRow _, by simp [Hy.out]⟩ ?_; rintro W2 ⟨H2, by2, hs2⟩; clear H1; have bf := Blk.nu (w := W2) (t := 147) (cs := #[.nilFunc]) hs2.symm)
    | (refine wpl_name (fun W => Cha.St w key nonce s0 W ∧ Blk W y 144 (Cha.row s0) ∧ Blk W (y + 1) 147 #[.nilFunc]) ⟨H2.next ((Below.refl _ _).alloc (Nat.le_refl _) _), by2.alloc _, bf⟩ ?_; clear H2 by2 bf hs2; rintro W3 ⟨H3, by3, bz3⟩; have cf := bz3.cell 0; have ff := bz3.frozen 0; simp only [List.getElem?_toArray, List.getElem?_cons_zero] at cf))
  have H4 : Cha.St2 w key nonce s0 y s0 (W3.setCell ⟨y + 1, 0, none⟩ (Cha.halfV (w.heap.size + 1 + 1 + 1))) := ⟨H3.far2 (by omega) _ _, by3.far (by simp) _, bz3.set_ 0 _⟩
  clear H3 by3 bz3 cf ff
  go_loopw [29] (fun i wr => ∃ k : Nat, k ≤ 10 ∧ i = .int .i64 (k : Int) ∧ Cha.St2 w key nonce s0 y (iter Cha.double k s0) wr) (fun i _ => 10 - (intOf i).toNat)
  case atStart => exact ⟨0, by omega, rfl, H4⟩
  case round =>
    clear H4
    obtain ⟨k, hk, rfl, H4⟩ := hrel
    by_cases hlt : k < 10
    · have tk : (k : Int) < 10 := by omega
      obtain ⟨s, Hs⟩ : ∃ s, Hd (iter Cha.double k s0 = s) := ⟨_, ⟨rfl⟩⟩
      have Ls := hd (show s.length = 16 by rw [← Hs.out, iter_keeps Cha.double List.length Cha.double_len, L0.out])
      rw [Hs.out] at H4
      go_wp2
      go_loopw [31] (fun i wr => ∃ j : Nat, j ≤ 4 ∧ i = .int .i64 (j : Int) ∧ Cha.St2 w key nonce s0 y (iter Cha.col j s) wr) (fun i _ => 4 - (intOf i).toNat)
      case atStart => exact ⟨0, by omega, rfl, H4⟩
      case round =>
        clear H4
        obtain ⟨j, hj, rfl, H4⟩ := hrel
        obtain ⟨t, Ht⟩ : ∃ s', Hd (iter Cha.col j s = s') := ⟨_, ⟨rfl⟩⟩
        have Lt := hd (show t.length = 16 by rw [← Ht.out, iter_keeps Cha.col List.length Cha.col_len, Ls.out])
        rw [Ht.out] at H4
        by_cases hlj : j < 4
        · have tj : (j : Int) < 4 := by omega
          obtain ⟨a1, e1, w1⟩ : ∃ a : Nat, (j : Int) + 4 = (a : Int) ∧ a = j + 4 := ⟨j + 4, by omega, rfl⟩
          obtain ⟨a2, e2, w2⟩ : ∃ a : Nat, (j : Int) + 8 = (a : Int) ∧ a = j + 8 := ⟨j + 8, by omega, rfl⟩
          obtain ⟨a3, e3, w3⟩ : ∃ a : Nat, (j : Int) + 12 = (a : Int) ∧ a = j + 12 := ⟨j + 12, by omega, rfl⟩
          have v1 : IntKind.i64.wrap (a1 : Int) = (a1 : Int) := IntWalk.i64_in _ (by omega)
          have v2 : IntKind.i64.wrap (a2 : Int) = (a2 : Int) := IntWalk.i64_in _ (by omega)
          have v3 : IntKind.i64.wrap (a3 : Int) = (a3 : Int) := IntWalk.i64_in _ (by omega)
          have Hnx := hd (show iter Cha.col (j + 1) s = Cha.quarter j a1 a2 a3 t by rw [iter, Ht.out, Cha.col, w1, w2, w3])
          have Hj := hd (show j < 16 ∧ a1 < 16 ∧ a2 < 16 ∧ a3 < 16 by omega)
          clear w1 w2 w3
          go_wp2_with (go_at_call 78; refine (Cha.quarter_any (y + 1) (w.heap.size + 1 + 1 + 1) t j a1 a2 a3 Hj.out.1 Hj.out.2.1 Hj.out.2.2.1 Hj.out.2.2.2 wr Lt.out H4.st.bs H4.bz).mono ?_; rintro e W5 ⟨rfl, b5, z5, g5⟩; have H5 := H4.step hy b5 g5; clear b5 z5 g5 H4)
          go_roundw
          case rel => exact ⟨j + 1, by omega, by go_num, by rw [Hnx.out]; exact H5⟩
          case measure => simp [intOf]; omega
        · have ej : j = 4 := by omega
          subst ej
          have tj : ¬ ((4 : Nat) : Int) < 4 := by omega
          go_wp2
          go_loopw [44] (fun i wr => ∃ j : Nat, j ≤ 4 ∧ i = .int .i64 (j : Int) ∧ Cha.St2 w key nonce s0 y (iter Cha.diag j t) wr) (fun i _ => 4 - (intOf i).toNat)
          case atStart => exact ⟨0, by omega, rfl, H4⟩
          case round =>
            clear H4
            obtain ⟨j, hj2, rfl, H4⟩ := hrel
            obtain ⟨u, Hu⟩ : ∃ s', Hd (iter Cha.diag j t = s') := ⟨_, ⟨rfl⟩⟩
            have Lu := hd (show u.length = 16 by rw [← Hu.out, iter_keeps Cha.diag List.length Cha.diag_len, Lt.out])
            rw [Hu.out] at H4
            by_cases hlj : j < 4
            · have tj2 : (j : Int) < 4 := by omega
              obtain ⟨p1, f1, h1⟩ : ∃ a : Nat, (j : Int) + 1 = (a : Int) ∧ a = j + 1 := ⟨j + 1, by omega, rfl⟩
              obtain ⟨p2, f2, h2⟩ : ∃ a : Nat, (j : Int) + 2 = (a : Int) ∧ a = j + 2 := ⟨j + 2, by omega, rfl⟩
              obtain ⟨p3, f3, h3⟩ : ∃ a : Nat, (j : Int) + 3 = (a : Int) ∧ a = j + 3 := ⟨j + 3, by omega, rfl⟩
              obtain ⟨q1, r1⟩ : ∃ a : Nat, Hd (a = (j + 1) % 4) := ⟨_, ⟨rfl⟩⟩
              have B1 : q1 < 4 := by rw [r1.out]; exact Nat.mod_lt _ (by decide)
              obtain ⟨q2, r2⟩ : ∃ a : Nat, Hd (a = (j + 2) % 4) := ⟨_, ⟨rfl⟩⟩
              have B2 : q2 < 4 := by rw [r2.out]; exact Nat.mod_lt _ (by decide)
              obtain ⟨q3, r3⟩ : ∃ a : Nat, Hd (a = (j + 3) % 4) := ⟨_, ⟨rfl⟩⟩
              have B3 : q3 < 4 := by rw [r3.out]; exact Nat.mod_lt _ (by decide)
              have m1 : bits .and .i64 (p1 : Int) 3 = (q1 : Int) := by rw [r1.out, ← h1]; exact Cha.and3 p1 (by omega)
              have m2 : bits .and .i64 (p2 : Int) 3 = (q2 : Int) := by rw [r2.out, ← h2]; exact Cha.and3 p2 (by omega)
              have m3 : bits .and .i64 (p3 : Int) 3 = (q3 : Int) := by rw [r3.out, ← h3]; exact Cha.and3 p3 (by omega)
              obtain ⟨a1, e1, w1⟩ : ∃ a : Nat, (4 : Int) + (q1 : Int) = (a : Int) ∧ a = 4 + q1 := ⟨4 + q1, by omega, rfl⟩
              obtain ⟨a2, e2, w2⟩ : ∃ a : Nat, (8 : Int) + (q2 : Int) = (a : Int) ∧ a = 8 + q2 := ⟨8 + q2, by omega, rfl⟩
              obtain ⟨a3, e3, w3⟩ : ∃ a : Nat, (12 : Int) + (q3 : Int) = (a : Int) ∧ a = 12 + q3 := ⟨12 + q3, by omega, rfl⟩
              have x1 : IntKind.i64.wrap (p1 : Int) = (p1 : Int) := IntWalk.i64_in _ (by omega)
              have x2 : IntKind.i64.wrap (p2 : Int) = (p2 : Int) := IntWalk.i64_in _ (by omega)
              have x3 : IntKind.i64.wrap (p3 : Int) = (p3 : Int) := IntWalk.i64_in _ (by omega)
              have v1 : IntKind.i64.wrap (a1 : Int) = (a1 : Int) := IntWalk.i64_in _ (by omega)
              have v2 : IntKind.i64.wrap (a2 : Int) = (a2 : Int) := IntWalk.i64_in _ (by omega)
              have v3 : IntKind.i64.wrap (a3 : Int) = (a3 : Int) := IntWalk.i64_in _ (by omega)
              have Hnx := hd (show iter Cha.diag (j + 1) t = Cha.quarter j a1 a2 a3 u by rw [iter, Hu.out, Cha.diag, w1, w2, w3, r1.out, r2.out, r3.out])
              have Hj := hd (show j < 16 ∧ a1 < 16 ∧ a2 < 16 ∧ a3 < 16 by omega)
              clear w1 w2 w3 r1 r2 r3 h1 h2 h3
              go_wp2_with (go_at_call 78; refine (Cha.quarter_any (y + 1) (w.heap.size + 1 + 1 + 1) u j a1 a2 a3 Hj.out.1 Hj.out.2.1 Hj.out.2.2.1 Hj.out.2.2.2 wr Lu.out H4.st.bs H4.bz).mono ?_; rintro e W5 ⟨rfl, b5, z5, g5⟩; have H5 := H4.step hy b5 g5; clear b5 z5 g5 H4)
              go_roundw
              case rel => exact ⟨j + 1, by omega, by go_num, by rw [Hnx.out]; exact H5⟩
              case measure => simp [intOf]; omega
            · have ej : j = 4 := by omega
              subst ej
              have tj2 : ¬ ((4 : Nat) : Int) < 4 := by omega
              have Hnx := hd (show iter Cha.double (k + 1) s0 = u by rw [iter, Hs.out, Cha.double, Ht.out, Hu.out])
              go_wp2
              go_roundw
              case rel => exact ⟨k + 1, by omega, by go_num, by rw [Hnx.out]; exact H4⟩
              case measure => simp [intOf]; omega
    · have ek : k = 10 := by omega
      subst ek
      have tk : ¬ ((10 : Nat) : Int) < 10 := by omega
      obtain ⟨s, Hs⟩ : ∃ s, Hd (iter Cha.double 10 s0 = s) := ⟨_, ⟨rfl⟩⟩
      have Ls := hd (show s.length = 16 by rw [← Hs.out, iter_keeps Cha.double List.length Cha.double_len, L0.out])
      rw [Hs.out] at H4
      obtain ⟨z, Hz⟩ : ∃ z, Hd (wr.heap.size = z) := ⟨_, ⟨rfl⟩⟩
      have hyz := H4.bz.lt
      rw [Hz.out] at hyz
      go_wp2_with (refine wpl_alloc rfl 126 rfl _ Cha.zero64 ?_; rw [Hz.out]; refine wpl_name (fun W => Cha.St w key nonce s W ∧ Blk W y 144 (Cha.row s0) ∧ Blk W z 126 (arr (List.replicate 64 0))) ⟨H4.st.next ((Below.refl _ _).alloc (Nat.le_refl _) _), H4.bw.alloc _, Blk.nu Hz.out.symm⟩ ?_; clear H4; rintro W6 ⟨H6, bw6, bo6⟩)
      go_loopw [64] (fun i wr => ∃ j : Nat, j ≤ 64 ∧ i = .int .i64 (j : Int) ∧ Cha.St w key nonce s wr ∧ Blk wr y 144 (Cha.row s0) ∧ Blk wr z 126 (arr (Cha.endTo s0 s j))) (fun i _ => 64 - (intOf i).toNat)
      case atStart => exact ⟨0, by omega, rfl, H6, bw6, by rw [Cha.endTo_none]; exact bo6⟩
      case round =>
        clear H6 bw6 bo6
        obtain ⟨j, hj, rfl, H6, bw6, bo6⟩ := hrel
        by_cases hlj : j < 64
        · have tj : (j : Int) < 64 := by omega
          obtain ⟨q, Hq⟩ : ∃ q, Hd (j / 4 = q) := ⟨_, ⟨rfl⟩⟩
          obtain ⟨m, Hm⟩ : ∃ m, Hd (j % 4 = m) := ⟨_, ⟨rfl⟩⟩
          have eq_ : (j : Int) / 4 = (q : Int) := by have := Hq.out; omega
          have em : (j : Int) % 4 = (m : Int) := by have := Hm.out; omega
          have Bq : q < 16 := by have := Hq.out; omega
          have Bm : m < 4 := by have := Hm.out; omega
          have tq : (q : Int) < 16 := by omega
          obtain ⟨E, HE⟩ : ∃ E, Hd (8 * m = E) := ⟨_, ⟨rfl⟩⟩
          have eE : (8 : Int) * (m : Int) = (E : Int) := by have := HE.out; omega
          have wE : IntKind.i64.wrap (E : Int) = (E : Int) := IntWalk.i64_in _ (by have := HE.out; omega)
          have Hnx := hd (show Cha.endTo s0 s (j + 1) = (Cha.endTo s0 s j).set j (shr32 (Cha.at_ s q + Cha.at_ s0 q) E).toUInt8 by rw [← Cha.endTo_next, Hq.out, Hm.out, HE.out])
          have c1 := Cha.Blk.cellW H6.bs q (by rw [Ls.out]; exact Bq)
          have c2 := Cha.Blk.cellW bw6 q (by rw [L0.out]; exact Bq)
          have c3 := bo6.arr_cell j (by rw [Cha.endTo_len]; exact hlj)
          have f3 := bo6.frozen j
          go_wp2
          go_region
          go_wp2
          go_roundw
          case rel => exact ⟨j + 1, by omega, by go_num, (H6.far2 (by omega) _ _).next (Below.refl _ _).drew, (bw6.far (by simp only []; omega) _).drew, by rw [Hnx.out]; exact (bo6.arr_set _ _).drew⟩
          case measure => simp [intOf]; omega
        · have ej : j = 64 := by omega
          subst ej
          have tj : ¬ ((64 : Nat) : Int) < 64 := by omega
          obtain ⟨r, Hr⟩ : ∃ r, Hd (Cha.endTo s0 s 64 = r) := ⟨_, ⟨rfl⟩⟩
          have Lr := hd (show r.length = 64 by rw [← Hr.out, Cha.endTo_len])
          have Hfin := hd (show Cha.ended s0 (Cha.rounds s0) = r by rw [← Hr.out, Cha.endTo_all, ← Hs.out]; rfl)
          rw [Hr.out] at bo6
          go_wp2_with (first | (refine wpl_load_arr rfl 126 _ rfl _ rfl 64 Cha.agg64 r Lr.out bo6.cells_arr ?_) | (refine wpl_store_arr rfl 126 _ _ rfl (w.heap.size + 1 + 1) r rfl rfl 126 _ H6.bo 64 Cha.agg64.size Lr.out (by rw [arr_size, List.length_replicate]) ?_))
          rw [Hfin.out]
          exact ret_arr rfl (w.heap.size + 1 + 1) rfl Cha.agg64 r Lr.out (H6.bo.setRow _).cells_arr rfl ⟨rfl, below_setRow H6.old (by omega) _⟩
end Go.Proofs.YthigbggacgiamaaDoor
