/-
  The law DerTimes, walked.
-/
import Derived.Test.YthkggeohdclffaaDoorTimF
import Derived.Test.YthkggeohdclffaaDoorTimJ
set_option linter.unusedVariables false
set_option linter.unusedSimpArgs false
set_option maxRecDepth 100000
namespace Go.Proofs.YthkggeohdclffaaDoor
open Go.RowKit
namespace Cal
instance (t : Int) : Decidable (InRange t) := inferInstanceAs (Decidable (_ ∧ _))
/-- What is written of a time. -/
def PL (t : Int) : List UInt8 := if InRange t then putT t else []
theorem putT_parts {t : Int} (h : InRange t) : ∃ tg z body, putT t = [tg, z] ++ body ∧ Form tg body (T14 t) ∧ body.length ≤ 15 := by
  obtain ⟨h1, h2, _, _⟩ := T14_form h
  have hl := T14_len t
  unfold putT
  by_cases hy : 1950 ≤ yOf (dayN t) ∧ yOf (dayN t) < 2050
  · rw [if_pos hy]
    have hlen : ((T14 t).drop 2 ++ [90]).length = 13 := by rw [List.length_append, List.length_drop, hl]; rfl
    refine ⟨23, Der.byteOf (((T14 t).drop 2 ++ [90]).length : Int), (T14 t).drop 2 ++ [90], ?_, h1 hy, by omega⟩
    unfold Der.put
    rw [if_neg (by rintro (h | h); exact absurd h (by decide); omega), if_neg (by omega), if_neg (by omega)]
  · rw [if_neg hy]
    have hlen : (T14 t ++ [90]).length = 15 := by rw [List.length_append, hl]; rfl
    refine ⟨24, Der.byteOf ((T14 t ++ [90]).length : Int), T14 t ++ [90], ?_, h2, by omega⟩
    unfold Der.put
    rw [if_neg (by rintro (h | h); exact absurd h (by decide); omega), if_neg (by omega), if_neg (by omega)]
theorem PL_len (t : Int) : (PL t).length ≤ 17 := by
  unfold PL
  split
  · rename_i h
    obtain ⟨_, _, body, e, _, hb⟩ := putT_parts h
    rw [e, List.length_append]
    simp
    omega
  · simp
end Cal
theorem PutSaid.own {t : Int} {w w' : World} {e : Ending} (h : PutSaid t w e w') : ∃ A c, e = .returned (.slice A (Cal.PL t).length c) ∧ OwnB w' w.heap.size (.slice A (Cal.PL t).length c) (Cal.PL t) ∧ Below w.heap.size w w' := by
  obtain ⟨v, rfl, h1, h2, h3⟩ := h
  by_cases hi : Cal.InRange t
  · have e : Cal.PL t = Cal.putT t := by unfold Cal.PL; rw [if_pos hi]
    have ho := h1 hi
    rw [← e] at ho
    obtain ⟨A, c, rfl⟩ := ho.slice
    exact ⟨A, c, rfl, ho, h3⟩
  · have e : Cal.PL t = [] := by unfold Cal.PL; rw [if_neg hi]
    rw [e, h2 hi]
    exact ⟨none, 0, rfl, OwnB.nil _ _, h3⟩
theorem enter_rputTime (args : Array Value) (w : World) : (callFunc 17 args).run Tryd.prog w = .ok (.enter 17 args) w := by kernel_rfl
theorem enter_time (args : Array Value) (w : World) : (callFunc 14 args).run Tryd.prog w = .ok (.enter 14 args) w := by kernel_rfl
theorem run_notB {P : Program} {ρ : Operand → Value} {o : Oper} {x : Operand} {t : TypeId} (ho : o.op = .unOp .not t x) (b : Bool) (hx : ρ x = .bool b) (w : World) : (execOp ρ o).run P w = .ok (.value (.bool (!b))) w := by
  unfold execOp
  simp only [ho, hx]
  simp [go_sem]
theorem run_neqI {P : Program} {ρ : Operand → Value} {o : Oper} {x y : Operand} {t rt : TypeId} (ho : o.op = .binOp .neq t x y rt) (i : Int) (hx : ρ x = .int .i64 i) (hy : ρ y = .int .i64 i) (w : World) : (execOp ρ o).run P w = .ok (.value (.bool false)) w := by
  unfold execOp
  simp only [ho, hx, hy]
  simp [go_sem]
theorem run_ext {P : Program} {ρ : Operand → Value} {o : Oper} {x : Operand} {i : Nat} (ho : o.op = .extract x i) (a b : Value) (hx : ρ x = .tuple #[a, b]) (v : Value) (hv : #[a, b][i]? = some v) (w : World) : (execOp ρ o).run P w = .ok (.value v) w := by
  have hi : i < 2 := by
    rcases Nat.lt_or_ge i 2 with h | h
    · exact h
    · rw [Array.getElem?_eq_none (by simpa using h)] at hv; cases hv
  unfold execOp
  simp only [ho, hx]
  rcases (show i = 0 ∨ i = 1 by omega) with rfl | rfl
  · injection hv with hv
    subst hv
    simp [go_sem]
  · injection hv with hv
    subst hv
    simp [go_sem]
set_option maxHeartbeats 16000000 in
set_option maxRecDepth 100000 in
theorem times_any (tag : UInt8) (A : Option Addr) (n c : Nat) (b : List UInt8) (t : Int) (ht : -9223372036854775808 ≤ t ∧ t ≤ 9223372036854775807) (w : World) (hr : ReadsB w w.heap.size A n b) (hn : n ≤ 140737488355328) (htab : Lib.TabIs Tryd.prog w "internal/strconv.uint64pow10" .u64 Lib.pow10Tab) :
    Calls Tryd.prog 6 #[.int .u8 ((n8 tag : Nat) : Int), .slice A n c, .int .i64 t] w fun e w' => e = .returned (.bool true) ∧ Below w.heap.size w w' := by
  have RD := hd (fun (W : World) (hW : Below w.heap.size w W) => (⟨hr.len, (hr.is.below hW).more hW.size⟩ : ReadsB W W.heap.size A n b))
  have Hn := hd hn
  obtain ⟨L, HL⟩ : ∃ z, Hd (Cal.PL t = z) := ⟨_, ⟨rfl⟩⟩
  obtain ⟨nP, HnP⟩ : ∃ z, Hd (L.length = z) := ⟨_, ⟨rfl⟩⟩
  have hnP : nP ≤ 17 := by rw [← HnP.out, ← HL.out]; exact Cal.PL_len t
  clear hr hn
  go_enter Tryd.func6, Tryd.ntmps6
  go_upto_region 2 with (first | (go_at_call 7; refine (head14_any w htab).mono ?_; rintro e w1 ⟨rfl, hB1⟩))
  have HT1 := hd (time_any tag A n c b w1 (RD.out w1 hB1) Hn.out)
  go_upto_region 3 with (first | (go_at_call 14; refine HT1.out.mono ?_; rintro e w2 ⟨v, er, rfl, htm1, hB12⟩))
  have hB2 := hB1.trans (hB12.mono hB1.size)
  have HT2 := hd (rtime_any tag A n c b w2 (RD.out w2 hB2) Hn.out)
  go_upto_region 4 with (first | (go_at_call 15; refine HT2.out.mono ?_; rintro e w3 ⟨v', er', rfl, htm2, hB23⟩))
  obtain ⟨e1, e2⟩ := htm2.one htm1
  subst e1 e2
  have hB3 := hB2.trans (hB23.mono hB2.size)
  have HT3 := hd (putTime_any t ht w3)
  clear HT1 HT2 htm1 htm2 hB12 hB23 hB1
  go_upto_region 5 with (first | (go_at_call 16; refine HT3.out.mono ?_; rintro e w4 hsaid; obtain ⟨A12, c12, rfl, own12, hB34⟩ := hsaid.own))
  rw [HL.out, HnP.out] at own12 ⊢
  have hB4 := hB3.trans (hB34.mono hB3.size)
  have RL := hd (fun (W : World) (hW : Below w4.heap.size w4 W) => (⟨HnP.out, (own12.reads_any.2.is.below hW).more hW.size⟩ : ReadsB W W.heap.size A12 nP L))
  have hroom := hd own12.room
  clear own12 hsaid HT3 hB34 hB3 hB2
  obtain ⟨v, Hv⟩ : ∃ z : Int, Hd (v' = z) := ⟨_, ⟨rfl⟩⟩
  obtain ⟨er, Her⟩ : ∃ z : Int, Hd (er' = z) := ⟨_, ⟨rfl⟩⟩
  rw [Hv.out, Her.out]
  refine p_start (fun W => Below w4.heap.size w4 W) (by kernel_rfl) (Below.refl _ _).drew ?_
  refine p_take 0 (o := _) rfl (by kernel_rfl) (by kernel_rfl) (by kernel_rfl) (wanted_plain rfl) (.bool true) (fun _ _ _ h => h) (fun W hW => run_move (by rfl) (by simp [Act.eval]) W) ?_
  simp only [Act.put, List.getElem_toArray, List.getElem_cons_succ, List.getElem_cons_zero, List.setIfInBounds_toArray, List.set_cons_zero, List.set_cons_succ]
  refine p_take 1 (o := _) rfl (by kernel_rfl) (by kernel_rfl) (by kernel_rfl) (wanted_plain rfl) (.bool false) (fun _ _ _ h => h) (fun W hW => run_notB (by rfl) true (by simp [Act.eval]) W) ?_
  simp only [Act.put, List.getElem_toArray, List.getElem_cons_succ, List.getElem_cons_zero, List.setIfInBounds_toArray, List.set_cons_zero, List.set_cons_succ]
  refine p_take 2 (o := _) rfl (by kernel_rfl) (by kernel_rfl) (by kernel_rfl) (wanted_plain rfl) (.bool false) (fun _ _ _ h => h) (fun W hW => run_move (by rfl) (by simp [Act.eval]) W) ?_
  simp only [Act.put, List.getElem_toArray, List.getElem_cons_succ, List.getElem_cons_zero, List.setIfInBounds_toArray, List.set_cons_zero, List.set_cons_succ]
  refine p_take 3 (o := _) rfl (by kernel_rfl) (by kernel_rfl) (by kernel_rfl) (by simp [Region.wanted, yielded]) (.int .i64 v) (fun _ _ _ h => h) (fun W hW => run_move (by rfl) (by simp [Act.eval]) W) ?_
  simp only [Act.put, List.getElem_toArray, List.getElem_cons_succ, List.getElem_cons_zero, List.setIfInBounds_toArray, List.set_cons_zero, List.set_cons_succ]
  refine p_take 4 (o := _) rfl (by kernel_rfl) (by kernel_rfl) (by kernel_rfl) (by simp [Region.wanted, yielded]) (.int .i64 v) (fun _ _ _ h => h) (fun W hW => run_move (by rfl) (by simp [Act.eval]) W) ?_
  simp only [Act.put, List.getElem_toArray, List.getElem_cons_succ, List.getElem_cons_zero, List.setIfInBounds_toArray, List.set_cons_zero, List.set_cons_succ]
  refine p_take 5 (o := _) rfl (by kernel_rfl) (by kernel_rfl) (by kernel_rfl) (by simp [Region.wanted, yielded]) (.bool false) (fun _ _ _ h => h) (fun W hW => run_neqI (by rfl) v (by simp [Act.eval]) (by simp [Act.eval]) W) ?_
  simp only [Act.put, List.getElem_toArray, List.getElem_cons_succ, List.getElem_cons_zero, List.setIfInBounds_toArray, List.set_cons_zero, List.set_cons_succ]
  refine p_take 6 (o := _) rfl (by kernel_rfl) (by kernel_rfl) (by kernel_rfl) (wanted_plain rfl) (.bool false) (fun _ _ _ h => h) (fun W hW => run_pick (b := false) (by rfl) (by simp [Act.eval]) (by simp [Act.eval]) W) ?_
  simp only [Act.put, List.getElem_toArray, List.getElem_cons_succ, List.getElem_cons_zero, List.setIfInBounds_toArray, List.set_cons_zero, List.set_cons_succ]
  refine p_take 7 (o := _) rfl (by kernel_rfl) (by kernel_rfl) (by kernel_rfl) (wanted_plain rfl) (.bool false) (fun _ _ _ h => h) (fun W hW => run_move (by rfl) (by simp [Act.eval]) W) ?_
  simp only [Act.put, List.getElem_toArray, List.getElem_cons_succ, List.getElem_cons_zero, List.setIfInBounds_toArray, List.set_cons_zero, List.set_cons_succ]
  refine p_take 8 (o := _) rfl (by kernel_rfl) (by kernel_rfl) (by kernel_rfl) (by simp [Region.wanted, yielded]) (.int .i64 er) (fun _ _ _ h => h) (fun W hW => run_move (by rfl) (by simp [Act.eval]) W) ?_
  simp only [Act.put, List.getElem_toArray, List.getElem_cons_succ, List.getElem_cons_zero, List.setIfInBounds_toArray, List.set_cons_zero, List.set_cons_succ]
  refine p_take 9 (o := _) rfl (by kernel_rfl) (by kernel_rfl) (by kernel_rfl) (by simp [Region.wanted, yielded]) (.int .i64 er) (fun _ _ _ h => h) (fun W hW => run_move (by rfl) (by simp [Act.eval]) W) ?_
  simp only [Act.put, List.getElem_toArray, List.getElem_cons_succ, List.getElem_cons_zero, List.setIfInBounds_toArray, List.set_cons_zero, List.set_cons_succ]
  refine p_take 10 (o := _) rfl (by kernel_rfl) (by kernel_rfl) (by kernel_rfl) (by simp [Region.wanted, yielded]) (.bool false) (fun _ _ _ h => h) (fun W hW => run_neqI (by rfl) er (by simp [Act.eval]) (by simp [Act.eval]) W) ?_
  simp only [Act.put, List.getElem_toArray, List.getElem_cons_succ, List.getElem_cons_zero, List.setIfInBounds_toArray, List.set_cons_zero, List.set_cons_succ]
  refine p_take 11 (o := _) rfl (by kernel_rfl) (by kernel_rfl) (by kernel_rfl) (wanted_plain rfl) (.bool false) (fun _ _ _ h => h) (fun W hW => run_pick (b := false) (by rfl) (by simp [Act.eval]) (by simp [Act.eval]) W) ?_
  simp only [Act.put, List.getElem_toArray, List.getElem_cons_succ, List.getElem_cons_zero, List.setIfInBounds_toArray, List.set_cons_zero, List.set_cons_succ]
  refine p_take 12 (o := _) rfl (by kernel_rfl) (by kernel_rfl) (by kernel_rfl) (wanted_plain rfl) (.bool false) (fun _ _ _ h => h) (fun W hW => run_move (by rfl) (by simp [Act.eval]) W) ?_
  simp only [Act.put, List.getElem_toArray, List.getElem_cons_succ, List.getElem_cons_zero, List.setIfInBounds_toArray, List.set_cons_zero, List.set_cons_succ]
  refine p_take 13 (o := _) rfl (by kernel_rfl) (by kernel_rfl) (by kernel_rfl) (by simp [Region.wanted, yielded]) (.slice A12 nP c12) (fun _ _ _ h => h) (fun W hW => run_move (by rfl) (by simp [Act.eval]) W) ?_
  simp only [Act.put, List.getElem_toArray, List.getElem_cons_succ, List.getElem_cons_zero, List.setIfInBounds_toArray, List.set_cons_zero, List.set_cons_succ]
  refine p_take 14 (o := _) rfl (by kernel_rfl) (by kernel_rfl) (by kernel_rfl) (by simp [Region.wanted, yielded]) (.string (str L)) (fun _ _ _ h => h) (fun W hW => run_toStr (by rfl) Tryd.underlying22 Tryd.underlying5 Tryd.underlying9 _ A12 nP c12 L (by simp [Act.eval]) (RL.out W hW)) ?_
  simp only [Act.put, List.getElem_toArray, List.getElem_cons_succ, List.getElem_cons_zero, List.setIfInBounds_toArray, List.set_cons_zero, List.set_cons_succ]
  refine p_take 15 (o := _) rfl (by kernel_rfl) (by kernel_rfl) (by kernel_rfl) (by simp [Region.wanted, yielded]) (.int .i64 t) (fun _ _ _ h => h) (fun W hW => run_move (by rfl) (by simp [Act.eval]) W) ?_
  simp only [Act.put, List.getElem_toArray, List.getElem_cons_succ, List.getElem_cons_zero, List.setIfInBounds_toArray, List.set_cons_zero, List.set_cons_succ]
  refine p_one 16 (by kernel_rfl) (fun W hW _ => ?_)
  refine op_call (o := _) rfl (by simp [Region.wanted, yielded]) 17 _ _ rfl #[.int .i64 t] (by simp [Act.eval]) (enter_rputTime _) ?_
  refine (rputTime_any t ht W).mono ?_
  rintro e W' hsaid
  obtain ⟨A13, c13, rfl, own13, hE⟩ := hsaid.own
  rw [HL.out, HnP.out] at own13 ⊢
  have hrd : ReadsB W' W'.heap.size A13 nP L := ⟨HnP.out, own13.reads_any.2.is⟩
  refine ⟨_, rfl, Next.mk (fun W2 => Below w4.heap.size w4 W2 ∧ ReadsB W2 W2.heap.size A13 nP L) (fun _ => True) (fun _ h => h.1) ⟨hW.trans (hE.mono hW.size), hrd⟩ trivial ?_⟩
  clear hsaid own13 hE hrd hW
  simp only [Act.put, List.getElem_toArray, List.getElem_cons_succ, List.getElem_cons_zero, List.setIfInBounds_toArray, List.set_cons_zero, List.set_cons_succ]
  refine p_take 17 (o := _) rfl (by kernel_rfl) (by kernel_rfl) (by kernel_rfl) (by simp [Region.wanted, yielded]) (.string (str L)) (fun _ _ _ h => h) (fun W hW => run_toStr (by rfl) Tryd.underlying22 Tryd.underlying5 Tryd.underlying9 _ A13 nP c13 L (by simp [Act.eval]) hW.2) ?_
  simp only [Act.put, List.getElem_toArray, List.getElem_cons_succ, List.getElem_cons_zero, List.setIfInBounds_toArray, List.set_cons_zero, List.set_cons_succ]
  refine p_take 18 (o := _) rfl (by kernel_rfl) (by kernel_rfl) (by kernel_rfl) (by simp [Region.wanted, yielded]) (.bool false) (fun _ _ _ h => h) (fun W hW => run_neqF (by rfl) L L rfl (by simp [Act.eval]) (by simp [Act.eval]) W) ?_
  simp only [Act.put, List.getElem_toArray, List.getElem_cons_succ, List.getElem_cons_zero, List.setIfInBounds_toArray, List.set_cons_zero, List.set_cons_succ]
  refine p_take 19 (o := _) rfl (by kernel_rfl) (by kernel_rfl) (by kernel_rfl) (wanted_plain rfl) (.bool false) (fun _ _ _ h => h) (fun W hW => run_pick (b := false) (by rfl) (by simp [Act.eval]) (by simp [Act.eval]) W) ?_
  simp only [Act.put, List.getElem_toArray, List.getElem_cons_succ, List.getElem_cons_zero, List.setIfInBounds_toArray, List.set_cons_zero, List.set_cons_succ]
  refine (show ∀ n, wpAnyV _ _ _ _ _ _ n _ _ _ from fun z0 => p_done (by kernel_rfl) (fun W hW => ?_) z0) _
  obtain ⟨w5, hB45⟩ : ∃ w5, Hd (W = w5 ∧ Below w4.heap.size w4 w5) := ⟨W, ⟨rfl, hW.1⟩⟩
  rw [hB45.out.1]
  replace hB45 := hB45.out.2
  clear hW
  have hB5 := hB4.trans (hB45.mono hB4.size)
  by_cases hin : Cal.InRange t
  · obtain ⟨tg, z, body, eL, hF, hbl⟩ := Cal.putT_parts hin
    have hL : L = [tg, z] ++ body := by rw [← HL.out]; unfold Cal.PL; rw [if_pos hin]; exact eL
    obtain ⟨nB, HnB⟩ : ∃ q, Hd (body.length = q) := ⟨_, ⟨rfl⟩⟩
    have hn2 : nP = nB + 2 := by rw [← HnP.out, hL, List.length_append, HnB.out]; simp; omega
    obtain ⟨_, _, hok, hfin⟩ := Cal.T14_form hin
    have HTm := hd (show Cal.Tm tg body t 0 from .inl ⟨_, hF, .inl ⟨hok, hfin.symm, rfl⟩⟩)
    have t1 : ¬ (nP : Int) = 0 := by omega
    have t1' : ¬ nP = 0 := by omega
    clear hok hfin hF eL hin
    go_upto_region 9 with fail
    obtain ⟨w6, Hw6⟩ : ∃ q, Hd (w5 = q) := ⟨_, ⟨rfl⟩⟩
    rw [Hw6.out] at hB45 hB5 ⊢
    obtain ⟨ad, eA, had, hc0⟩ := (RL.out w6 hB45).cell (k := 0) (by omega)
    subst eA
    rw [show nth L 0 = tg by rw [hL]; rfl, addr0] at hc0
    have HC0 := hd (fun (W : World) (hW : Below w6.heap.size w6 W) => (hW.cell (p := ad) had).trans hc0)
    obtain ⟨A14, HA14⟩ : ∃ x, Hd ((if c12 = 2 then some ad else (some ad).map (·.add 2)) = x) := ⟨_, ⟨rfl⟩⟩
    obtain ⟨c14, Hc14⟩ : ∃ x, Hd (c12 - 2 = x) := ⟨_, ⟨rfl⟩⟩
    have HS := hd (fun (W : World) (ρ : Operand → Value) (o : Oper) (x y : Operand) (ho : o.op = .slice 22 x (some y) none none) (hx : ρ x = .slice (some ad) nP c12) (hy : ρ y = .int .i64 ((2 : Nat) : Int)) => (by have h := run_slice_from (P := Tryd.prog) (w := W) ho Tryd.underlying22 u8_cell1 (some ad) nP c12 2 hx hy (by omega) hroom.out; rw [HA14.out, Hc14.out, show nP - 2 = nB by omega] at h; exact h : (execOp ρ o).run Tryd.prog W = .ok (.value (.slice A14 nB c14)) W))
    have HIx := hd (fun (W : World) (ρ : Operand → Value) (o : Oper) (x y : Operand) (ho : o.op = .indexAddr 22 x y) (hx : ρ x = .slice (some ad) nP c12) (hy : ρ y = .int .i64 ((0 : Nat) : Int)) => (by have h := Der.index (P := Tryd.prog) (w := W) ho Tryd.underlying22 Der.sz8 ad nP c12 0 hx hy (by omega); rw [Nat.zero_mul, addr0] at h; exact h : (execOp ρ o).run Tryd.prog W = .ok (.value (.pointer (some ad))) W))
    have HB14 := hd (fun (W : World) (hW : Below w6.heap.size w6 W) => show ReadsB W W.heap.size A14 nB body by
      have h := (RL.out W (hB45.trans (hW.mono hB45.size))).drop (k := 2) (by omega) hroom.out
      rw [HA14.out, show nP - 2 = nB by omega, show L.drop 2 = body by rw [hL]; rfl] at h
      exact h)
    clear hc0 had t1 t1'
    refine p_start (fun W => Below w6.heap.size w6 W) (by kernel_rfl) (Below.refl _ _).drew ?_
    refine p_take 0 (o := _) rfl (by kernel_rfl) (by kernel_rfl) (by kernel_rfl) (wanted_plain rfl) (.slice (some ad) nP c12) (fun _ _ _ h => h) (fun W hW => run_move (by rfl) (by simp [Act.eval]) W) ?_
    simp only [Act.put, List.getElem_toArray, List.getElem_cons_succ, List.getElem_cons_zero, List.setIfInBounds_toArray, List.set_cons_zero, List.set_cons_succ]
    refine p_take 1 (o := _) rfl (by kernel_rfl) (by kernel_rfl) (by kernel_rfl) (wanted_plain rfl) (.pointer (some ad)) (fun _ _ _ h => h) (fun W hW => HIx.out W _ _ _ _ (by rfl) (by simp [Act.eval]) (by simp [Act.eval])) ?_
    simp only [Act.put, List.getElem_toArray, List.getElem_cons_succ, List.getElem_cons_zero, List.setIfInBounds_toArray, List.set_cons_zero, List.set_cons_succ]
    refine p_take 2 (o := _) rfl (by kernel_rfl) (by kernel_rfl) (by kernel_rfl) (wanted_plain rfl) (.int .u8 ((n8 tg : Nat) : Int)) (fun _ _ _ h => h) (fun W hW => Der.ld Der.na8 (by rfl) ad _ (by simp [Act.eval]) (HC0.out W hW)) ?_
    simp only [Act.put, List.getElem_toArray, List.getElem_cons_succ, List.getElem_cons_zero, List.setIfInBounds_toArray, List.set_cons_zero, List.set_cons_succ]
    refine p_take 3 (o := _) rfl (by kernel_rfl) (by kernel_rfl) (by kernel_rfl) (wanted_plain rfl) (.slice (some ad) nP c12) (fun _ _ _ h => h) (fun W hW => run_move (by rfl) (by simp [Act.eval]) W) ?_
    simp only [Act.put, List.getElem_toArray, List.getElem_cons_succ, List.getElem_cons_zero, List.setIfInBounds_toArray, List.set_cons_zero, List.set_cons_succ]
    refine p_take 4 (o := _) rfl (by kernel_rfl) (by kernel_rfl) (by kernel_rfl) (wanted_plain rfl) (.slice A14 nB c14) (fun _ _ _ h => h) (fun W hW => HS.out W _ _ _ _ (by rfl) (by simp [Act.eval]) (by simp [Act.eval])) ?_
    simp only [Act.put, List.getElem_toArray, List.getElem_cons_succ, List.getElem_cons_zero, List.setIfInBounds_toArray, List.set_cons_zero, List.set_cons_succ]
    refine p_one 5 (by kernel_rfl) (fun W hW _ => ?_)
    refine op_call (o := _) rfl (wanted_plain rfl) 14 _ _ rfl #[.int .u8 ((n8 tg : Nat) : Int), .slice A14 nB c14] (by simp [Act.eval]) (enter_time _) ?_
    refine (time_any tg A14 nB c14 body W (HB14.out W hW) (by have := HnB.out; omega)).mono ?_
    rintro e W' ⟨v2, er2, rfl, htm, hE⟩
    obtain ⟨e1, e2⟩ := htm.one HTm.out
    rw [e1, e2]
    refine ⟨_, rfl, Next.mk (fun W2 => Below w6.heap.size w6 W2) (fun _ => True) (fun _ h => h) (hW.trans (hE.mono hW.size)) trivial ?_⟩
    clear hE hW htm
    simp only [Act.put, List.getElem_toArray, List.getElem_cons_succ, List.getElem_cons_zero, List.setIfInBounds_toArray, List.set_cons_zero, List.set_cons_succ]
    refine p_take 6 (o := _) rfl (by kernel_rfl) (by kernel_rfl) (by kernel_rfl) (wanted_plain rfl) (.tuple #[.int .i64 t, .int .i64 0]) (fun _ _ _ h => h) (fun W hW => run_move (by rfl) (by simp [Act.eval]) W) ?_
    simp only [Act.put, List.getElem_toArray, List.getElem_cons_succ, List.getElem_cons_zero, List.setIfInBounds_toArray, List.set_cons_zero, List.set_cons_succ]
    refine p_take 7 (o := _) rfl (by kernel_rfl) (by kernel_rfl) (by kernel_rfl) (wanted_plain rfl) (.int .i64 t) (fun _ _ _ h => h) (fun W hW => run_ext (by rfl) (.int .i64 t) (.int .i64 0) (by simp [Act.eval]) _ rfl W) ?_
    simp only [Act.put, List.getElem_toArray, List.getElem_cons_succ, List.getElem_cons_zero, List.setIfInBounds_toArray, List.set_cons_zero, List.set_cons_succ]
    refine p_take 8 (o := _) rfl (by kernel_rfl) (by kernel_rfl) (by kernel_rfl) (wanted_plain rfl) (.int .i64 0) (fun _ _ _ h => h) (fun W hW => run_ext (by rfl) (.int .i64 t) (.int .i64 0) (by simp [Act.eval]) _ rfl W) ?_
    simp only [Act.put, List.getElem_toArray, List.getElem_cons_succ, List.getElem_cons_zero, List.setIfInBounds_toArray, List.set_cons_zero, List.set_cons_succ]
    refine p_take 9 (o := _) rfl (by kernel_rfl) (by kernel_rfl) (by kernel_rfl) (wanted_plain rfl) (.int .i64 t) (fun _ _ _ h => h) (fun W hW => run_assign (by rfl) (by simp [Act.eval]) W) ?_
    simp only [Act.put, List.getElem_toArray, List.getElem_cons_succ, List.getElem_cons_zero, List.setIfInBounds_toArray, List.set_cons_zero, List.set_cons_succ]
    refine p_take 10 (o := _) rfl (by kernel_rfl) (by kernel_rfl) (by kernel_rfl) (wanted_plain rfl) (.int .i64 0) (fun _ _ _ h => h) (fun W hW => run_assign (by rfl) (by simp [Act.eval]) W) ?_
    simp only [Act.put, List.getElem_toArray, List.getElem_cons_succ, List.getElem_cons_zero, List.setIfInBounds_toArray, List.set_cons_zero, List.set_cons_succ]
    refine (show ∀ n, wpAnyV _ _ _ _ _ _ n _ _ _ from fun z0 => p_done (by kernel_rfl) (fun W hW => ?_) z0) _
    go_wp2
    go_ret
    exact ⟨rfl, hB5.trans (hW.mono hB5.size)⟩
  · have hL0 : nP = 0 := by rw [← HnP.out, ← HL.out]; unfold Cal.PL; rw [if_neg hin]; rfl
    subst hL0
    by_cases h1 : t < -62135596800
    · clear hin
      go_wp2
      go_ret
      exact ⟨rfl, hB5⟩
    · have h2 : 253402300799 < t := by
        rcases Int.lt_or_le 253402300799 t with h | h
        · exact h
        · exact absurd ⟨by omega, h⟩ hin
      clear hin
      go_wp2
      go_ret
      exact ⟨rfl, hB5⟩
end Go.Proofs.YthkggeohdclffaaDoor
