/-
  The walk of SchedSteps.
-/
import Derived.Test.YtbcboldepghgpaaGreatDoorSteB
import Derived.Deep.DeepCutAuto
set_option linter.unusedVariables false
set_option linter.unusedSimpArgs false
set_option maxRecDepth 100000
namespace Go.Proofs.YtbcboldepghgpaaGreatDoor
open Go.RowKit
namespace Sched
def keyOf (s : UInt16) (sec : List UInt8) : List UInt8 := if s == 4865 then expand 1 sec lKey [] 16 else if s == 4866 then expand 2 sec lKey [] 32 else if s == 4867 then expand 1 sec lKey [] 32 else []
def ivOf (s : UInt16) (sec : List UInt8) : List UInt8 := if s == 4865 then expand 1 sec lIv [] 12 else if s == 4866 then expand 2 sec lIv [] 12 else if s == 4867 then expand 1 sec lIv [] 12 else List.replicate 12 0
def keyErr (s : UInt16) : Int := if s == 4865 then 0 else if s == 4866 then 0 else if s == 4867 then 0 else 191
end Sched
theorem ivOf_len (s : UInt16) (sec : List UInt8) : (Sched.ivOf s sec).length = 12 := by
  unfold Sched.ivOf
  split
  · exact expand_iv_len 1 (.inl rfl) sec
  · split
    · exact expand_iv_len 2 (.inr (.inl rfl)) sec
    · split
      · exact expand_iv_len 1 (.inl rfl) sec
      · rfl
theorem n16_of_beq (s k : UInt16) (h : (s == k) = true) : s = k := by simpa using h
theorem keys_all (s : UInt16) (A : Option Addr) (m c : Nat) (sec : List UInt8) (w : World) (hr : ReadsB w w.heap.size A m sec) (hm : m ≤ 140737488355000) (htb : Tabs w) :
    Calls Tryz.prog 11 #[.int .u16 ((n16 s : Nat) : Int), .slice A m c] w fun e w' => ∃ v, e = .returned (.tuple #[v, .agg (arr (Sched.ivOf s sec)), .int .i64 (Sched.keyErr s)]) ∧ OwnB w' w.heap.size v (Sched.keyOf s sec) ∧ Below w.heap.size w w' := by
  unfold Sched.ivOf Sched.keyErr Sched.keyOf
  by_cases h1 : (s == 4865) = true
  · rw [if_pos h1, if_pos h1, if_pos h1]
    have e := n16_of_beq _ _ h1
    subst e
    exact keys_128 A m c sec w hr hm htb
  · by_cases h2 : (s == 4866) = true
    · rw [if_neg h1, if_pos h2, if_neg h1, if_pos h2, if_neg h1, if_pos h2]
      have e := n16_of_beq _ _ h2
      subst e
      exact keys_256 A m c sec w hr hm htb
    · by_cases h3 : (s == 4867) = true
      · rw [if_neg h1, if_neg h2, if_pos h3, if_neg h1, if_neg h2, if_pos h3, if_neg h1, if_neg h2, if_pos h3]
        have e := n16_of_beq _ _ h3
        subst e
        exact keys_cha A m c sec w hr hm htb
      · have k1 : (s == 4865) = false := by simpa using h1
        have k2 : (s == 4866) = false := by simpa using h2
        have k3 : (s == 4867) = false := by simpa using h3
        rw [if_neg h1, if_neg h2, if_neg h3, if_neg h1, if_neg h2, if_neg h3, if_neg h1, if_neg h2, if_neg h3]
        refine (keys_none s k1 k2 k3 (.slice A m c) w).mono ?_
        rintro e w' ⟨rfl, hB⟩
        exact ⟨_, rfl, OwnB.nil _ _, hB⟩
theorem rkeys_all (s : UInt16) (A : Option Addr) (m c : Nat) (sec : List UInt8) (w : World) (hr : ReadsB w w.heap.size A m sec) (hm : m ≤ 140737488353000) :
    Calls Tryz.prog 12 #[.int .u16 ((n16 s : Nat) : Int), .slice A m c] w fun e w' => ∃ v, e = .returned (.tuple #[v, .agg (arr (Sched.ivOf s sec)), .int .i64 (Sched.keyErr s)]) ∧ OwnB w' w.heap.size v (Sched.keyOf s sec) ∧ Below w.heap.size w w' := by
  unfold Sched.ivOf Sched.keyErr Sched.keyOf
  by_cases h1 : (s == 4865) = true
  · rw [if_pos h1, if_pos h1, if_pos h1]
    have e := n16_of_beq _ _ h1
    subst e
    exact rkeys_128 A m c sec w hr hm
  · by_cases h2 : (s == 4866) = true
    · rw [if_neg h1, if_pos h2, if_neg h1, if_pos h2, if_neg h1, if_pos h2]
      have e := n16_of_beq _ _ h2
      subst e
      exact rkeys_256 A m c sec w hr hm
    · by_cases h3 : (s == 4867) = true
      · rw [if_neg h1, if_neg h2, if_pos h3, if_neg h1, if_neg h2, if_pos h3, if_neg h1, if_neg h2, if_pos h3]
        have e := n16_of_beq _ _ h3
        subst e
        exact rkeys_cha A m c sec w hr hm
      · have k1 : (s == 4865) = false := by simpa using h1
        have k2 : (s == 4866) = false := by simpa using h2
        have k3 : (s == 4867) = false := by simpa using h3
        rw [if_neg h1, if_neg h2, if_neg h3, if_neg h1, if_neg h2, if_neg h3, if_neg h1, if_neg h2, if_neg h3]
        refine (rkeys_none s k1 k2 k3 A m c sec w hr hm).mono ?_
        rintro e w' ⟨rfl, hB⟩
        exact ⟨_, rfl, OwnB.nil _ _, hB⟩
theorem wpl_gen {P : Program} {w w2 : World} {o : Oper} {a : Act} {Q : Exit → Act → World → Prop} {ops : Array Oper} {rest : List Oper} (hw : Region.wanted o (yielded ops a.tmps) = true) (v : Value) (hrun : (execOp a.eval o).run P w = .ok (.value v) w2) (h : wpList P ops Q rest (a.put o.dst v) w2) : wpList P ops Q (o :: rest) a w :=
  wpList_step fun K hK => by
    rw [if_pos hw]
    unfold Oper.wp
    rw [hrun]
    exact hK _ _ h
theorem guard12 : Tryz.prog.eqGuardType Tryz.prog.depth 29 = false := by kernel_rfl
theorem eq12 (a b : List UInt8) (ha : a.length = 12) (hb : b.length = 12) (W : World) : (Op.equalIn 10000 29 (.agg (arr a)) (.agg (arr b))).run Tryz.prog W = .ok (decide (a = b)) W := run_equalIn_arr W 9998 Tryz.underlying29 Tryz.underlying5 one8 a b ha hb
theorem run_eql_arr12 {w : World} {o : Oper} {ρ : Operand → Value} {x y : Operand} {rt : TypeId} (ho : o.op = .binOp .eql 29 x y rt) (l m : List UInt8) (hx : ρ x = .agg (arr l)) (hy : ρ y = .agg (arr m)) (hl : l.length = 12) (hm : m.length = 12) (d : Bool) (hd : decide (l = m) = d) :
    (execOp ρ o).run Tryz.prog w = .ok (.value (.bool d)) w := by
  subst hd
  unfold execOp
  simp only [ho, hx, hy, Sem.run_bind, run_eqGuard_agg _ _ _ _ _ _ _ guard12, run_eql_struct, eq12 l m hl hm, Result.andThen_ok]
  rfl
theorem enter_early2 (args : Array Value) (w : World) : (callFunc 5 args).run Tryz.prog w = .ok (.enter 5 args) w := by kernel_rfl
theorem enter_rearly (args : Array Value) (w : World) : (callFunc 6 args).run Tryz.prog w = .ok (.enter 6 args) w := by kernel_rfl
theorem enter_handshake2 (args : Array Value) (w : World) : (callFunc 7 args).run Tryz.prog w = .ok (.enter 7 args) w := by kernel_rfl
theorem enter_rhandshake (args : Array Value) (w : World) : (callFunc 8 args).run Tryz.prog w = .ok (.enter 8 args) w := by kernel_rfl
theorem enter_master2 (args : Array Value) (w : World) : (callFunc 9 args).run Tryz.prog w = .ok (.enter 9 args) w := by kernel_rfl
theorem enter_rmaster (args : Array Value) (w : World) : (callFunc 10 args).run Tryz.prog w = .ok (.enter 10 args) w := by kernel_rfl
theorem enter_update2 (args : Array Value) (w : World) : (callFunc 13 args).run Tryz.prog w = .ok (.enter 13 args) w := by kernel_rfl
theorem enter_rupdate (args : Array Value) (w : World) : (callFunc 14 args).run Tryz.prog w = .ok (.enter 14 args) w := by kernel_rfl
theorem enter_finished2 (args : Array Value) (w : World) : (callFunc 15 args).run Tryz.prog w = .ok (.enter 15 args) w := by kernel_rfl
theorem enter_rfinished (args : Array Value) (w : World) : (callFunc 16 args).run Tryz.prog w = .ok (.enter 16 args) w := by kernel_rfl
theorem enter_binder (args : Array Value) (w : World) : (callFunc 17 args).run Tryz.prog w = .ok (.enter 17 args) w := by kernel_rfl
theorem enter_rbinder (args : Array Value) (w : World) : (callFunc 18 args).run Tryz.prog w = .ok (.enter 18 args) w := by kernel_rfl
theorem enter_resumed (args : Array Value) (w : World) : (callFunc 19 args).run Tryz.prog w = .ok (.enter 19 args) w := by kernel_rfl
theorem enter_rresumed (args : Array Value) (w : World) : (callFunc 20 args).run Tryz.prog w = .ok (.enter 20 args) w := by kernel_rfl
set_option maxHeartbeats 16000000 in
set_option maxRecDepth 100000 in
theorem steps_law (h : Int) (s : UInt16) (A2 : Option Addr) (n2 c2 : Nat) (a : List UInt8) (A3 : Option Addr) (n3 c3 : Nat) (b : List UInt8) (w : World) (hr2 : ReadsB w w.heap.size A2 n2 a) (hc2 : n2 ≤ c2) (hn2 : n2 ≤ 140737488351232) (hr3 : ReadsB w w.heap.size A3 n3 b) (hc3 : n3 ≤ c3) (hn3 : n3 ≤ 140737488351232) (htb0 : Tabs w) :
    Calls Tryz.prog 3 #[.int .i64 h, .int .u16 ((n16 s : Nat) : Int), .slice A2 n2 c2, .slice A3 n3 c3] w fun e w' => e = .returned (.bool true) ∧ Below w.heap.size w w' := by
  obtain ⟨EA, HEA⟩ : ∃ x, Hd (Sched.early h a = x) := ⟨_, ⟨rfl⟩⟩
  obtain ⟨HS, HHS⟩ : ∃ x, Hd (Mac.code h (Sched.saltOf h a) b = x) := ⟨_, ⟨rfl⟩⟩
  obtain ⟨MS, HMS⟩ : ∃ x, Hd (Mac.code h (Sched.saltOf h a) (Sched.zeros h) = x) := ⟨_, ⟨rfl⟩⟩
  obtain ⟨UP, HUP⟩ : ∃ x, Hd (Sched.derive h a Sched.lUpdate [] = x) := ⟨_, ⟨rfl⟩⟩
  obtain ⟨FI, HFI⟩ : ∃ x, Hd (Mac.code h (Sched.derive h a Sched.lFinished []) b = x) := ⟨_, ⟨rfl⟩⟩
  obtain ⟨BI, HBI⟩ : ∃ x, Hd (Sched.binder h a b = x) := ⟨_, ⟨rfl⟩⟩
  obtain ⟨RS, HRS⟩ : ∃ x, Hd (Sched.derive h a Sched.lResumed b = x) := ⟨_, ⟨rfl⟩⟩
  obtain ⟨IV, HI⟩ : ∃ x, Hd (Sched.ivOf s a = x) := ⟨_, ⟨rfl⟩⟩
  have HIl := hd (show IV.length = 12 by rw [← HI.out]; exact ivOf_len s a)
  obtain ⟨K, nK, HK, HKl⟩ := named (Sched.keyOf s a)
  obtain ⟨er, HE⟩ : ∃ x, Hd (Sched.keyErr s = x) := ⟨_, ⟨rfl⟩⟩
  have rd2 := hd (fun W (hW : Below w.heap.size w W) => (⟨hr2.len, (hr2.is.below hW).more hW.size⟩ : ReadsB W W.heap.size A2 n2 a))
  have rd3 := hd (fun W (hW : Below w.heap.size w W) => (⟨hr3.len, (hr3.is.below hW).more hW.size⟩ : ReadsB W W.heap.size A3 n3 b))
  go_enter Tryz.func3, Tryz.ntmps3
  go_upto_region 2 with (first | (go_at_call 4; refine (head19_any w htb0).mono ?_; rintro e w1 ⟨rfl, hw1⟩))
  go_cut [10] (fun s10 wx => s10 = .bool true ∧ Below w1.heap.size w1 wx)
  case first =>
    have ra := rd2.out w1 hw1
    have rb := rd3.out w1 hw1
    have htb := htb0.below hw1
    refine p_start (Held w1 [] []) (by kernel_rfl) (Held.nil (Below.refl _ _).drew) ?_
    refine p_take 0 (o := _) rfl (by kernel_rfl) (by kernel_rfl) (by kernel_rfl) (wanted_plain rfl) (.int .i64 h) (fun _ _ _ h => h) (fun W hW => run_move (by rfl) (by simp [Act.eval]) W) ?_
    simp only [Act.put, List.getElem_toArray, List.getElem_cons_succ, List.getElem_cons_zero, List.setIfInBounds_toArray, List.set_cons_zero, List.set_cons_succ]
    refine p_take 1 (o := _) rfl (by kernel_rfl) (by kernel_rfl) (by kernel_rfl) (wanted_plain rfl) (.slice A2 n2 c2) (fun _ _ _ h => h) (fun W hW => run_move (by rfl) (by simp [Act.eval]) W) ?_
    simp only [Act.put, List.getElem_toArray, List.getElem_cons_succ, List.getElem_cons_zero, List.setIfInBounds_toArray, List.set_cons_zero, List.set_cons_succ]
    refine p_take 4 (o := _) rfl (by kernel_rfl) (by kernel_rfl) (by kernel_rfl) (wanted_plain rfl) (.int .i64 h) (fun _ _ _ h => h) (fun W hW => run_move (by rfl) (by simp [Act.eval]) W) ?_
    simp only [Act.put, List.getElem_toArray, List.getElem_cons_succ, List.getElem_cons_zero, List.setIfInBounds_toArray, List.set_cons_zero, List.set_cons_succ]
    refine p_take 5 (o := _) rfl (by kernel_rfl) (by kernel_rfl) (by kernel_rfl) (wanted_plain rfl) (.slice A2 n2 c2) (fun _ _ _ h => h) (fun W hW => run_move (by rfl) (by simp [Act.eval]) W) ?_
    simp only [Act.put, List.getElem_toArray, List.getElem_cons_succ, List.getElem_cons_zero, List.setIfInBounds_toArray, List.set_cons_zero, List.set_cons_succ]
    refine p_one 2 (by kernel_rfl) (fun W hW _ => ?_)
    refine op_call (o := _) rfl (wanted_plain rfl) 5 _ _ rfl #[.int .i64 h, .slice A2 n2 c2] (by simp [Act.eval]) (enter_early2 _) ?_
    refine (early_any h A2 n2 c2 a W (hW.reads0 ra) (by omega) (hW.tabs htb)).mono ?_
    rintro e W' ⟨v, rfl, own, hE⟩
    rw [HEA.out] at own
    obtain ⟨Ax1, cx1, e1⟩ := own.slice
    obtain ⟨nx1, Hnx1⟩ : ∃ x, Hd (List.length EA = x) := ⟨_, ⟨rfl⟩⟩
    rw [Hnx1.out] at e1
    subst e1
    have hrd : ReadsB W' W'.heap.size Ax1 nx1 EA := ⟨Hnx1.out, own.reads_any.2.is⟩
    have hN : Held w1 (⟨Ax1, nx1, cx1, EA⟩ :: []) [] W' := (hW.below hE).cons hrd
    refine ⟨_, rfl, Next.mk (Held w1 (⟨Ax1, nx1, cx1, EA⟩ :: []) []) (fun _ => True) (fun _ h => h.tail) hN trivial ?_⟩
    clear hN hrd own hE hW
    simp only [Act.put, List.getElem_toArray, List.getElem_cons_succ, List.getElem_cons_zero, List.setIfInBounds_toArray, List.set_cons_zero, List.set_cons_succ]
    refine p_take 3 (o := _) rfl (by kernel_rfl) (by kernel_rfl) (by kernel_rfl) (wanted_plain rfl) (.string (str EA)) (fun _ _ _ h => h) (fun W hW => run_toStr (by rfl) Tryz.underlying25 Tryz.underlying5 Tryz.underlying9 _ Ax1 nx1 cx1 EA (by simp [Act.eval]) (hW.reads ⟨Ax1, nx1, cx1, EA⟩ (by simp))) ?_
    simp only [Act.put, List.getElem_toArray, List.getElem_cons_succ, List.getElem_cons_zero, List.setIfInBounds_toArray, List.set_cons_zero, List.set_cons_succ]
    refine p_one 6 (by kernel_rfl) (fun W hW _ => ?_)
    refine op_call (o := _) rfl (wanted_plain rfl) 6 _ _ rfl #[.int .i64 h, .slice A2 n2 c2] (by simp [Act.eval]) (enter_rearly _) ?_
    refine (rearly_any h A2 n2 c2 a W (hW.reads0 ra) (by omega)).mono ?_
    rintro e W' ⟨v, rfl, own, hE⟩
    rw [HEA.out] at own
    obtain ⟨Ax2, cx2, e1⟩ := own.slice
    obtain ⟨nx2, Hnx2⟩ : ∃ x, Hd (List.length EA = x) := ⟨_, ⟨rfl⟩⟩
    rw [Hnx2.out] at e1
    subst e1
    have hrd : ReadsB W' W'.heap.size Ax2 nx2 EA := ⟨Hnx2.out, own.reads_any.2.is⟩
    have hN : Held w1 (⟨Ax2, nx2, cx2, EA⟩ :: [⟨Ax1, nx1, cx1, EA⟩]) [] W' := (hW.below hE).cons hrd
    refine ⟨_, rfl, Next.mk (Held w1 (⟨Ax2, nx2, cx2, EA⟩ :: [⟨Ax1, nx1, cx1, EA⟩]) []) (fun _ => True) (fun _ h => h.tail) hN trivial ?_⟩
    clear hN hrd own hE hW
    simp only [Act.put, List.getElem_toArray, List.getElem_cons_succ, List.getElem_cons_zero, List.setIfInBounds_toArray, List.set_cons_zero, List.set_cons_succ]
    refine p_take 7 (o := _) rfl (by kernel_rfl) (by kernel_rfl) (by kernel_rfl) (wanted_plain rfl) (.string (str EA)) (fun _ _ _ h => h) (fun W hW => run_toStr (by rfl) Tryz.underlying25 Tryz.underlying5 Tryz.underlying9 _ Ax2 nx2 cx2 EA (by simp [Act.eval]) (hW.reads ⟨Ax2, nx2, cx2, EA⟩ (by simp))) ?_
    simp only [Act.put, List.getElem_toArray, List.getElem_cons_succ, List.getElem_cons_zero, List.setIfInBounds_toArray, List.set_cons_zero, List.set_cons_succ]
    refine p_take 8 (o := _) rfl (by kernel_rfl) (by kernel_rfl) (by kernel_rfl) (wanted_plain rfl) (.bool true) (fun _ _ _ h => h) (fun W hW => run_eqT (by rfl) EA EA (rfl) (by simp [Act.eval]) (by simp [Act.eval]) W) ?_
    simp only [Act.put, List.getElem_toArray, List.getElem_cons_succ, List.getElem_cons_zero, List.setIfInBounds_toArray, List.set_cons_zero, List.set_cons_succ]
    refine p_take 9 (o := _) rfl (by kernel_rfl) (by kernel_rfl) (by kernel_rfl) (wanted_plain rfl) (.bool true) (fun _ _ _ h => h) (fun W hW => run_assign (by rfl) (by simp [Act.eval]) W) ?_
    simp only [Act.put, List.getElem_toArray, List.getElem_cons_succ, List.getElem_cons_zero, List.setIfInBounds_toArray, List.set_cons_zero, List.set_cons_succ]
    refine p_done (by kernel_rfl) (fun W hW => ?_) _
    go_wp2
    go_meet
    exact ⟨rfl, hW.old⟩
  case rest =>
  obtain ⟨rfl, hB⟩ := hcut
  obtain ⟨w2, rfl⟩ : ∃ w2 : World, w2 = wc := ⟨_, rfl⟩
  have hw2 := hw1.trans (hB.mono hw1.size)
  clear hB hw1
  go_upto_region 3 with fail
  go_cut [11] (fun s11 wx => s11 = .bool true ∧ Below w2.heap.size w2 wx)
  case first =>
    have ra := rd2.out w2 hw2
    have rb := rd3.out w2 hw2
    have htb := htb0.below hw2
    refine p_start (Held w2 [] []) (by kernel_rfl) (Held.nil (Below.refl _ _).drew) ?_
    refine p_take 0 (o := _) rfl (by kernel_rfl) (by kernel_rfl) (by kernel_rfl) (wanted_plain rfl) (.int .i64 h) (fun _ _ _ h => h) (fun W hW => run_move (by rfl) (by simp [Act.eval]) W) ?_
    simp only [Act.put, List.getElem_toArray, List.getElem_cons_succ, List.getElem_cons_zero, List.setIfInBounds_toArray, List.set_cons_zero, List.set_cons_succ]
    refine p_take 1 (o := _) rfl (by kernel_rfl) (by kernel_rfl) (by kernel_rfl) (wanted_plain rfl) (.slice A2 n2 c2) (fun _ _ _ h => h) (fun W hW => run_move (by rfl) (by simp [Act.eval]) W) ?_
    simp only [Act.put, List.getElem_toArray, List.getElem_cons_succ, List.getElem_cons_zero, List.setIfInBounds_toArray, List.set_cons_zero, List.set_cons_succ]
    refine p_take 2 (o := _) rfl (by kernel_rfl) (by kernel_rfl) (by kernel_rfl) (wanted_plain rfl) (.slice A3 n3 c3) (fun _ _ _ h => h) (fun W hW => run_move (by rfl) (by simp [Act.eval]) W) ?_
    simp only [Act.put, List.getElem_toArray, List.getElem_cons_succ, List.getElem_cons_zero, List.setIfInBounds_toArray, List.set_cons_zero, List.set_cons_succ]
    refine p_take 5 (o := _) rfl (by kernel_rfl) (by kernel_rfl) (by kernel_rfl) (wanted_plain rfl) (.int .i64 h) (fun _ _ _ h => h) (fun W hW => run_move (by rfl) (by simp [Act.eval]) W) ?_
    simp only [Act.put, List.getElem_toArray, List.getElem_cons_succ, List.getElem_cons_zero, List.setIfInBounds_toArray, List.set_cons_zero, List.set_cons_succ]
    refine p_take 6 (o := _) rfl (by kernel_rfl) (by kernel_rfl) (by kernel_rfl) (wanted_plain rfl) (.slice A2 n2 c2) (fun _ _ _ h => h) (fun W hW => run_move (by rfl) (by simp [Act.eval]) W) ?_
    simp only [Act.put, List.getElem_toArray, List.getElem_cons_succ, List.getElem_cons_zero, List.setIfInBounds_toArray, List.set_cons_zero, List.set_cons_succ]
    refine p_take 7 (o := _) rfl (by kernel_rfl) (by kernel_rfl) (by kernel_rfl) (wanted_plain rfl) (.slice A3 n3 c3) (fun _ _ _ h => h) (fun W hW => run_move (by rfl) (by simp [Act.eval]) W) ?_
    simp only [Act.put, List.getElem_toArray, List.getElem_cons_succ, List.getElem_cons_zero, List.setIfInBounds_toArray, List.set_cons_zero, List.set_cons_succ]
    refine p_one 3 (by kernel_rfl) (fun W hW _ => ?_)
    refine op_call (o := _) rfl (wanted_plain rfl) 7 _ _ rfl #[.int .i64 h, .slice A2 n2 c2, .slice A3 n3 c3] (by simp [Act.eval]) (enter_handshake2 _) ?_
    refine (handshake_any h A2 n2 c2 a A3 n3 c3 b W (hW.reads0 ra) (by omega) (hW.reads0 rb) (by omega) (hW.tabs htb)).mono ?_
    rintro e W' ⟨v, rfl, own, hE⟩
    rw [HHS.out] at own
    obtain ⟨Ax1, cx1, e1⟩ := own.slice
    obtain ⟨nx1, Hnx1⟩ : ∃ x, Hd (List.length HS = x) := ⟨_, ⟨rfl⟩⟩
    rw [Hnx1.out] at e1
    subst e1
    have hrd : ReadsB W' W'.heap.size Ax1 nx1 HS := ⟨Hnx1.out, own.reads_any.2.is⟩
    have hN : Held w2 (⟨Ax1, nx1, cx1, HS⟩ :: []) [] W' := (hW.below hE).cons hrd
    refine ⟨_, rfl, Next.mk (Held w2 (⟨Ax1, nx1, cx1, HS⟩ :: []) []) (fun _ => True) (fun _ h => h.tail) hN trivial ?_⟩
    clear hN hrd own hE hW
    simp only [Act.put, List.getElem_toArray, List.getElem_cons_succ, List.getElem_cons_zero, List.setIfInBounds_toArray, List.set_cons_zero, List.set_cons_succ]
    refine p_take 4 (o := _) rfl (by kernel_rfl) (by kernel_rfl) (by kernel_rfl) (wanted_plain rfl) (.string (str HS)) (fun _ _ _ h => h) (fun W hW => run_toStr (by rfl) Tryz.underlying25 Tryz.underlying5 Tryz.underlying9 _ Ax1 nx1 cx1 HS (by simp [Act.eval]) (hW.reads ⟨Ax1, nx1, cx1, HS⟩ (by simp))) ?_
    simp only [Act.put, List.getElem_toArray, List.getElem_cons_succ, List.getElem_cons_zero, List.setIfInBounds_toArray, List.set_cons_zero, List.set_cons_succ]
    refine p_one 8 (by kernel_rfl) (fun W hW _ => ?_)
    refine op_call (o := _) rfl (wanted_plain rfl) 8 _ _ rfl #[.int .i64 h, .slice A2 n2 c2, .slice A3 n3 c3] (by simp [Act.eval]) (enter_rhandshake _) ?_
    refine (rhandshake_any h A2 n2 c2 a A3 n3 c3 b W (hW.reads0 ra) (by omega) (hW.reads0 rb) (by omega)).mono ?_
    rintro e W' ⟨v, rfl, own, hE⟩
    rw [HHS.out] at own
    obtain ⟨Ax2, cx2, e1⟩ := own.slice
    obtain ⟨nx2, Hnx2⟩ : ∃ x, Hd (List.length HS = x) := ⟨_, ⟨rfl⟩⟩
    rw [Hnx2.out] at e1
    subst e1
    have hrd : ReadsB W' W'.heap.size Ax2 nx2 HS := ⟨Hnx2.out, own.reads_any.2.is⟩
    have hN : Held w2 (⟨Ax2, nx2, cx2, HS⟩ :: [⟨Ax1, nx1, cx1, HS⟩]) [] W' := (hW.below hE).cons hrd
    refine ⟨_, rfl, Next.mk (Held w2 (⟨Ax2, nx2, cx2, HS⟩ :: [⟨Ax1, nx1, cx1, HS⟩]) []) (fun _ => True) (fun _ h => h.tail) hN trivial ?_⟩
    clear hN hrd own hE hW
    simp only [Act.put, List.getElem_toArray, List.getElem_cons_succ, List.getElem_cons_zero, List.setIfInBounds_toArray, List.set_cons_zero, List.set_cons_succ]
    refine p_take 9 (o := _) rfl (by kernel_rfl) (by kernel_rfl) (by kernel_rfl) (wanted_plain rfl) (.string (str HS)) (fun _ _ _ h => h) (fun W hW => run_toStr (by rfl) Tryz.underlying25 Tryz.underlying5 Tryz.underlying9 _ Ax2 nx2 cx2 HS (by simp [Act.eval]) (hW.reads ⟨Ax2, nx2, cx2, HS⟩ (by simp))) ?_
    simp only [Act.put, List.getElem_toArray, List.getElem_cons_succ, List.getElem_cons_zero, List.setIfInBounds_toArray, List.set_cons_zero, List.set_cons_succ]
    refine p_take 10 (o := _) rfl (by kernel_rfl) (by kernel_rfl) (by kernel_rfl) (wanted_plain rfl) (.bool true) (fun _ _ _ h => h) (fun W hW => run_eqT (by rfl) HS HS (rfl) (by simp [Act.eval]) (by simp [Act.eval]) W) ?_
    simp only [Act.put, List.getElem_toArray, List.getElem_cons_succ, List.getElem_cons_zero, List.setIfInBounds_toArray, List.set_cons_zero, List.set_cons_succ]
    refine p_take 11 (o := _) rfl (by kernel_rfl) (by kernel_rfl) (by kernel_rfl) (wanted_plain rfl) (.bool true) (fun _ _ _ h => h) (fun W hW => run_assign (by rfl) (by simp [Act.eval]) W) ?_
    simp only [Act.put, List.getElem_toArray, List.getElem_cons_succ, List.getElem_cons_zero, List.setIfInBounds_toArray, List.set_cons_zero, List.set_cons_succ]
    refine p_done (by kernel_rfl) (fun W hW => ?_) _
    go_wp2
    go_meet
    exact ⟨rfl, hW.old⟩
  case rest =>
  obtain ⟨rfl, hB⟩ := hcut
  obtain ⟨w3, rfl⟩ : ∃ w3 : World, w3 = wc := ⟨_, rfl⟩
  have hw3 := hw2.trans (hB.mono hw2.size)
  clear hB hw2
  go_upto_region 4 with fail
  go_cut [12] (fun s12 wx => s12 = .bool true ∧ Below w3.heap.size w3 wx)
  case first =>
    have ra := rd2.out w3 hw3
    have rb := rd3.out w3 hw3
    have htb := htb0.below hw3
    refine p_start (Held w3 [] []) (by kernel_rfl) (Held.nil (Below.refl _ _).drew) ?_
    refine p_take 0 (o := _) rfl (by kernel_rfl) (by kernel_rfl) (by kernel_rfl) (wanted_plain rfl) (.int .i64 h) (fun _ _ _ h => h) (fun W hW => run_move (by rfl) (by simp [Act.eval]) W) ?_
    simp only [Act.put, List.getElem_toArray, List.getElem_cons_succ, List.getElem_cons_zero, List.setIfInBounds_toArray, List.set_cons_zero, List.set_cons_succ]
    refine p_take 1 (o := _) rfl (by kernel_rfl) (by kernel_rfl) (by kernel_rfl) (wanted_plain rfl) (.slice A2 n2 c2) (fun _ _ _ h => h) (fun W hW => run_move (by rfl) (by simp [Act.eval]) W) ?_
    simp only [Act.put, List.getElem_toArray, List.getElem_cons_succ, List.getElem_cons_zero, List.setIfInBounds_toArray, List.set_cons_zero, List.set_cons_succ]
    refine p_take 4 (o := _) rfl (by kernel_rfl) (by kernel_rfl) (by kernel_rfl) (wanted_plain rfl) (.int .i64 h) (fun _ _ _ h => h) (fun W hW => run_move (by rfl) (by simp [Act.eval]) W) ?_
    simp only [Act.put, List.getElem_toArray, List.getElem_cons_succ, List.getElem_cons_zero, List.setIfInBounds_toArray, List.set_cons_zero, List.set_cons_succ]
    refine p_take 5 (o := _) rfl (by kernel_rfl) (by kernel_rfl) (by kernel_rfl) (wanted_plain rfl) (.slice A2 n2 c2) (fun _ _ _ h => h) (fun W hW => run_move (by rfl) (by simp [Act.eval]) W) ?_
    simp only [Act.put, List.getElem_toArray, List.getElem_cons_succ, List.getElem_cons_zero, List.setIfInBounds_toArray, List.set_cons_zero, List.set_cons_succ]
    refine p_one 2 (by kernel_rfl) (fun W hW _ => ?_)
    refine op_call (o := _) rfl (wanted_plain rfl) 9 _ _ rfl #[.int .i64 h, .slice A2 n2 c2] (by simp [Act.eval]) (enter_master2 _) ?_
    refine (master_any h A2 n2 c2 a W (hW.reads0 ra) (by omega) (hW.tabs htb)).mono ?_
    rintro e W' ⟨v, rfl, own, hE⟩
    rw [HMS.out] at own
    obtain ⟨Ax1, cx1, e1⟩ := own.slice
    obtain ⟨nx1, Hnx1⟩ : ∃ x, Hd (List.length MS = x) := ⟨_, ⟨rfl⟩⟩
    rw [Hnx1.out] at e1
    subst e1
    have hrd : ReadsB W' W'.heap.size Ax1 nx1 MS := ⟨Hnx1.out, own.reads_any.2.is⟩
    have hN : Held w3 (⟨Ax1, nx1, cx1, MS⟩ :: []) [] W' := (hW.below hE).cons hrd
    refine ⟨_, rfl, Next.mk (Held w3 (⟨Ax1, nx1, cx1, MS⟩ :: []) []) (fun _ => True) (fun _ h => h.tail) hN trivial ?_⟩
    clear hN hrd own hE hW
    simp only [Act.put, List.getElem_toArray, List.getElem_cons_succ, List.getElem_cons_zero, List.setIfInBounds_toArray, List.set_cons_zero, List.set_cons_succ]
    refine p_take 3 (o := _) rfl (by kernel_rfl) (by kernel_rfl) (by kernel_rfl) (wanted_plain rfl) (.string (str MS)) (fun _ _ _ h => h) (fun W hW => run_toStr (by rfl) Tryz.underlying25 Tryz.underlying5 Tryz.underlying9 _ Ax1 nx1 cx1 MS (by simp [Act.eval]) (hW.reads ⟨Ax1, nx1, cx1, MS⟩ (by simp))) ?_
    simp only [Act.put, List.getElem_toArray, List.getElem_cons_succ, List.getElem_cons_zero, List.setIfInBounds_toArray, List.set_cons_zero, List.set_cons_succ]
    refine p_one 6 (by kernel_rfl) (fun W hW _ => ?_)
    refine op_call (o := _) rfl (wanted_plain rfl) 10 _ _ rfl #[.int .i64 h, .slice A2 n2 c2] (by simp [Act.eval]) (enter_rmaster _) ?_
    refine (rmaster_any h A2 n2 c2 a W (hW.reads0 ra) (by omega)).mono ?_
    rintro e W' ⟨v, rfl, own, hE⟩
    rw [HMS.out] at own
    obtain ⟨Ax2, cx2, e1⟩ := own.slice
    obtain ⟨nx2, Hnx2⟩ : ∃ x, Hd (List.length MS = x) := ⟨_, ⟨rfl⟩⟩
    rw [Hnx2.out] at e1
    subst e1
    have hrd : ReadsB W' W'.heap.size Ax2 nx2 MS := ⟨Hnx2.out, own.reads_any.2.is⟩
    have hN : Held w3 (⟨Ax2, nx2, cx2, MS⟩ :: [⟨Ax1, nx1, cx1, MS⟩]) [] W' := (hW.below hE).cons hrd
    refine ⟨_, rfl, Next.mk (Held w3 (⟨Ax2, nx2, cx2, MS⟩ :: [⟨Ax1, nx1, cx1, MS⟩]) []) (fun _ => True) (fun _ h => h.tail) hN trivial ?_⟩
    clear hN hrd own hE hW
    simp only [Act.put, List.getElem_toArray, List.getElem_cons_succ, List.getElem_cons_zero, List.setIfInBounds_toArray, List.set_cons_zero, List.set_cons_succ]
    refine p_take 7 (o := _) rfl (by kernel_rfl) (by kernel_rfl) (by kernel_rfl) (wanted_plain rfl) (.string (str MS)) (fun _ _ _ h => h) (fun W hW => run_toStr (by rfl) Tryz.underlying25 Tryz.underlying5 Tryz.underlying9 _ Ax2 nx2 cx2 MS (by simp [Act.eval]) (hW.reads ⟨Ax2, nx2, cx2, MS⟩ (by simp))) ?_
    simp only [Act.put, List.getElem_toArray, List.getElem_cons_succ, List.getElem_cons_zero, List.setIfInBounds_toArray, List.set_cons_zero, List.set_cons_succ]
    refine p_take 8 (o := _) rfl (by kernel_rfl) (by kernel_rfl) (by kernel_rfl) (wanted_plain rfl) (.bool true) (fun _ _ _ h => h) (fun W hW => run_eqT (by rfl) MS MS (rfl) (by simp [Act.eval]) (by simp [Act.eval]) W) ?_
    simp only [Act.put, List.getElem_toArray, List.getElem_cons_succ, List.getElem_cons_zero, List.setIfInBounds_toArray, List.set_cons_zero, List.set_cons_succ]
    refine p_take 9 (o := _) rfl (by kernel_rfl) (by kernel_rfl) (by kernel_rfl) (wanted_plain rfl) (.bool true) (fun _ _ _ h => h) (fun W hW => run_assign (by rfl) (by simp [Act.eval]) W) ?_
    simp only [Act.put, List.getElem_toArray, List.getElem_cons_succ, List.getElem_cons_zero, List.setIfInBounds_toArray, List.set_cons_zero, List.set_cons_succ]
    refine p_done (by kernel_rfl) (fun W hW => ?_) _
    go_wp2
    go_meet
    exact ⟨rfl, hW.old⟩
  case rest =>
  obtain ⟨rfl, hB⟩ := hcut
  obtain ⟨w4, rfl⟩ : ∃ w4 : World, w4 = wc := ⟨_, rfl⟩
  have hw4 := hw3.trans (hB.mono hw3.size)
  clear hB hw3
  go_upto_region 8 with (first | (refine wpl_gen (o := ⟨some 73, _, _, _, _, _⟩) (by simp [Region.wanted, yielded, Act.put]) (.bool true) (run_eql_arr12 (by rfl) IV IV (by simp [Act.eval, Act.put]) (by simp [Act.eval, Act.put]) HIl.out HIl.out true (by simp)) ?_) | (refine wpl_gen (o := ⟨some 72, _, _, _, _, _⟩) (by simp [Region.wanted, yielded, Act.put]) (.agg (arr IV)) (run_load_arr (by rfl) (by simp [Act.eval, Act.put]) ty12 IV HIl.out bz8.cells_arr) ?_) | (refine wpl_gen (o := ⟨some 71, _, _, _, _, _⟩) (by simp [Region.wanted, yielded, Act.put]) (.agg (arr IV)) (run_load_arr (by rfl) (by simp [Act.eval, Act.put]) ty12 IV HIl.out bz68.cells_arr) ?_) | (refine wpl_gen (o := ⟨some 69, _, _, _, _, _⟩) (by simp [Region.wanted, yielded, Act.put]) (.bool true) (run_eqT (by rfl) K K rfl (by simp [Act.eval, Act.put]) (by simp [Act.eval, Act.put]) _) ?_) | (refine wpl_gen (o := ⟨some 68, _, _, _, _, _⟩) (by simp [Region.wanted, yielded, Act.put]) (.string (str K)) (run_toStr (by rfl) Tryz.underlying25 Tryz.underlying5 Tryz.underlying9 _ A7 nK c7 K (by simp [Act.eval, Act.put]) rk8) ?_) | (refine wpl_gen (o := ⟨some 66, _, _, _, _, _⟩) (by simp [Region.wanted, yielded, Act.put]) (.string (str K)) (run_toStr (by rfl) Tryz.underlying25 Tryz.underlying5 Tryz.underlying9 _ A5 nK c5 K (by simp [Act.eval, Act.put]) rk58) ?_) | (refine wpl_store_arr rfl 29 _ _ rfl w7.heap.size IV rfl rfl 29 _ (Blk.nu rfl) 12 (by kernel_rfl) HIl.out (by rfl) ?_; refine wpl_name (fun wo => Blk wo w7.heap.size 29 (arr IV) ∧ Below w7.heap.size w7 wo) ⟨(Blk.nu rfl).setRow _, below_setRow ((Below.refl _ _).alloc (Nat.le_refl _) _) (Nat.le_refl _) _⟩ ?_; rintro w8 ⟨bz8, hB78⟩; have hw8 := hw7.trans (hB78.mono hw7.size); have bz68 := bz67.below hB78 (hb67); have rk8 : ReadsB w8 w8.heap.size A7 nK K := ⟨rk7.len, (rk7.is.below hB78).more hB78.size⟩; have rk58 : ReadsB w8 w8.heap.size A5 nK K := ⟨rk57.len, (rk57.is.below hB78).more hB78.size⟩; clear rk7 rk57) | (go_at_call 12; refine (rkeys_all s A2 n2 c2 a w6 (rd2.out w6 hw6) (by omega)).mono ?_; rintro e w7 ⟨v7, rfl, own7, hB67⟩; rw [HI.out, HE.out]; rw [HK.out] at own7; obtain ⟨A7, c7, e7⟩ := own7.slice; rw [HKl.out] at e7; subst e7; have hw7 := hw6.trans (hB67.mono hw6.size); have rk7 : ReadsB w7 w7.heap.size A7 nK K := ⟨HKl.out, own7.reads_any.2.is⟩; have hb67 : w5.heap.size < w7.heap.size := Nat.lt_of_lt_of_le bz6.lt hB67.size; have bz67 := bz6.below hB67 bz6.lt; have rk57 : ReadsB w7 w7.heap.size A5 nK K := ⟨rk56.len, (rk56.is.below hB67).more hB67.size⟩; clear rk56 bz6) | (refine wpl_store_arr rfl 29 _ _ rfl w5.heap.size IV rfl rfl 29 _ (Blk.nu rfl) 12 (by kernel_rfl) HIl.out (by rfl) ?_; refine wpl_name (fun wo => Blk wo w5.heap.size 29 (arr IV) ∧ Below w5.heap.size w5 wo) ⟨(Blk.nu rfl).setRow _, below_setRow ((Below.refl _ _).alloc (Nat.le_refl _) _) (Nat.le_refl _) _⟩ ?_; rintro w6 ⟨bz6, hB56⟩; have hw6 := hw5.trans (hB56.mono hw5.size); have rk56 : ReadsB w6 w6.heap.size A5 nK K := ⟨rk5.len, (rk5.is.below hB56).more hB56.size⟩; clear rk5) | (go_at_call 11; refine (keys_all s A2 n2 c2 a w4 (rd2.out w4 hw4) (by omega) (htb0.below hw4)).mono ?_; rintro e w5 ⟨v5, rfl, own5, hB45⟩; rw [HI.out, HE.out]; rw [HK.out] at own5; obtain ⟨A5, c5, e5⟩ := own5.slice; rw [HKl.out] at e5; subst e5; have hw5 := hw4.trans (hB45.mono hw4.size); have rk5 : ReadsB w5 w5.heap.size A5 nK K := ⟨HKl.out, own5.reads_any.2.is⟩) | (refine wpl_alloc rfl 29 rfl _ zero12n ?_))
  have ra := rd2.out w8 hw8
  have rb := rd3.out w8 hw8
  have htb := htb0.below hw8
  refine p_start (Held w8 [] []) (by kernel_rfl) (Held.nil (Below.refl _ _).drew) ?_
  refine p_take 0 (o := _) rfl (by kernel_rfl) (by kernel_rfl) (by kernel_rfl) (wanted_plain rfl) (.int .i64 h) (fun _ _ _ h => h) (fun W hW => run_move (by rfl) (by simp [Act.eval]) W) ?_
  simp only [Act.put, List.getElem_toArray, List.getElem_cons_succ, List.getElem_cons_zero, List.setIfInBounds_toArray, List.set_cons_zero, List.set_cons_succ]
  refine p_take 1 (o := _) rfl (by kernel_rfl) (by kernel_rfl) (by kernel_rfl) (wanted_plain rfl) (.slice A2 n2 c2) (fun _ _ _ h => h) (fun W hW => run_move (by rfl) (by simp [Act.eval]) W) ?_
  simp only [Act.put, List.getElem_toArray, List.getElem_cons_succ, List.getElem_cons_zero, List.setIfInBounds_toArray, List.set_cons_zero, List.set_cons_succ]
  refine p_take 4 (o := _) rfl (by kernel_rfl) (by kernel_rfl) (by kernel_rfl) (wanted_plain rfl) (.int .i64 h) (fun _ _ _ h => h) (fun W hW => run_move (by rfl) (by simp [Act.eval]) W) ?_
  simp only [Act.put, List.getElem_toArray, List.getElem_cons_succ, List.getElem_cons_zero, List.setIfInBounds_toArray, List.set_cons_zero, List.set_cons_succ]
  refine p_take 5 (o := _) rfl (by kernel_rfl) (by kernel_rfl) (by kernel_rfl) (wanted_plain rfl) (.slice A2 n2 c2) (fun _ _ _ h => h) (fun W hW => run_move (by rfl) (by simp [Act.eval]) W) ?_
  simp only [Act.put, List.getElem_toArray, List.getElem_cons_succ, List.getElem_cons_zero, List.setIfInBounds_toArray, List.set_cons_zero, List.set_cons_succ]
  refine p_one 2 (by kernel_rfl) (fun W hW _ => ?_)
  refine op_call (o := _) rfl (wanted_plain rfl) 13 _ _ rfl #[.int .i64 h, .slice A2 n2 c2] (by simp [Act.eval]) (enter_update2 _) ?_
  refine (update_any h A2 n2 c2 a W (hW.reads0 ra) (by omega) (hW.tabs htb)).mono ?_
  rintro e W' ⟨v, rfl, own, hE⟩
  rw [HUP.out] at own
  obtain ⟨Ax1, cx1, e1⟩ := own.slice
  obtain ⟨nx1, Hnx1⟩ : ∃ x, Hd (List.length UP = x) := ⟨_, ⟨rfl⟩⟩
  rw [Hnx1.out] at e1
  subst e1
  have hrd : ReadsB W' W'.heap.size Ax1 nx1 UP := ⟨Hnx1.out, own.reads_any.2.is⟩
  have hN : Held w8 (⟨Ax1, nx1, cx1, UP⟩ :: []) [] W' := (hW.below hE).cons hrd
  refine ⟨_, rfl, Next.mk (Held w8 (⟨Ax1, nx1, cx1, UP⟩ :: []) []) (fun _ => True) (fun _ h => h.tail) hN trivial ?_⟩
  clear hN hrd own hE hW
  simp only [Act.put, List.getElem_toArray, List.getElem_cons_succ, List.getElem_cons_zero, List.setIfInBounds_toArray, List.set_cons_zero, List.set_cons_succ]
  refine p_take 3 (o := _) rfl (by kernel_rfl) (by kernel_rfl) (by kernel_rfl) (wanted_plain rfl) (.string (str UP)) (fun _ _ _ h => h) (fun W hW => run_toStr (by rfl) Tryz.underlying25 Tryz.underlying5 Tryz.underlying9 _ Ax1 nx1 cx1 UP (by simp [Act.eval]) (hW.reads ⟨Ax1, nx1, cx1, UP⟩ (by simp))) ?_
  simp only [Act.put, List.getElem_toArray, List.getElem_cons_succ, List.getElem_cons_zero, List.setIfInBounds_toArray, List.set_cons_zero, List.set_cons_succ]
  refine p_one 6 (by kernel_rfl) (fun W hW _ => ?_)
  refine op_call (o := _) rfl (wanted_plain rfl) 14 _ _ rfl #[.int .i64 h, .slice A2 n2 c2] (by simp [Act.eval]) (enter_rupdate _) ?_
  refine (rupdate_any h A2 n2 c2 a W (hW.reads0 ra) (by omega)).mono ?_
  rintro e W' ⟨v, rfl, own, hE⟩
  rw [HUP.out] at own
  obtain ⟨Ax2, cx2, e1⟩ := own.slice
  obtain ⟨nx2, Hnx2⟩ : ∃ x, Hd (List.length UP = x) := ⟨_, ⟨rfl⟩⟩
  rw [Hnx2.out] at e1
  subst e1
  have hrd : ReadsB W' W'.heap.size Ax2 nx2 UP := ⟨Hnx2.out, own.reads_any.2.is⟩
  have hN : Held w8 (⟨Ax2, nx2, cx2, UP⟩ :: [⟨Ax1, nx1, cx1, UP⟩]) [] W' := (hW.below hE).cons hrd
  refine ⟨_, rfl, Next.mk (Held w8 (⟨Ax2, nx2, cx2, UP⟩ :: [⟨Ax1, nx1, cx1, UP⟩]) []) (fun _ => True) (fun _ h => h.tail) hN trivial ?_⟩
  clear hN hrd own hE hW
  simp only [Act.put, List.getElem_toArray, List.getElem_cons_succ, List.getElem_cons_zero, List.setIfInBounds_toArray, List.set_cons_zero, List.set_cons_succ]
  refine p_take 7 (o := _) rfl (by kernel_rfl) (by kernel_rfl) (by kernel_rfl) (wanted_plain rfl) (.string (str UP)) (fun _ _ _ h => h) (fun W hW => run_toStr (by rfl) Tryz.underlying25 Tryz.underlying5 Tryz.underlying9 _ Ax2 nx2 cx2 UP (by simp [Act.eval]) (hW.reads ⟨Ax2, nx2, cx2, UP⟩ (by simp))) ?_
  simp only [Act.put, List.getElem_toArray, List.getElem_cons_succ, List.getElem_cons_zero, List.setIfInBounds_toArray, List.set_cons_zero, List.set_cons_succ]
  refine p_take 8 (o := _) rfl (by kernel_rfl) (by kernel_rfl) (by kernel_rfl) (wanted_plain rfl) (.bool true) (fun _ _ _ h => h) (fun W hW => run_eqT (by rfl) UP UP (rfl) (by simp [Act.eval]) (by simp [Act.eval]) W) ?_
  simp only [Act.put, List.getElem_toArray, List.getElem_cons_succ, List.getElem_cons_zero, List.setIfInBounds_toArray, List.set_cons_zero, List.set_cons_succ]
  refine p_take 9 (o := _) rfl (by kernel_rfl) (by kernel_rfl) (by kernel_rfl) (wanted_plain rfl) (.bool true) (fun _ _ _ h => h) (fun W hW => run_move (by rfl) (by simp [Act.eval]) W) ?_
  simp only [Act.put, List.getElem_toArray, List.getElem_cons_succ, List.getElem_cons_zero, List.setIfInBounds_toArray, List.set_cons_zero, List.set_cons_succ]
  refine p_take 10 (o := _) rfl (by kernel_rfl) (by kernel_rfl) (by kernel_rfl) (by simp [Region.wanted, yielded]) (.int .i64 h) (fun _ _ _ h => h) (fun W hW => run_move (by rfl) (by simp [Act.eval]) W) ?_
  simp only [Act.put, List.getElem_toArray, List.getElem_cons_succ, List.getElem_cons_zero, List.setIfInBounds_toArray, List.set_cons_zero, List.set_cons_succ]
  refine p_take 11 (o := _) rfl (by kernel_rfl) (by kernel_rfl) (by kernel_rfl) (by simp [Region.wanted, yielded]) (.slice A2 n2 c2) (fun _ _ _ h => h) (fun W hW => run_move (by rfl) (by simp [Act.eval]) W) ?_
  simp only [Act.put, List.getElem_toArray, List.getElem_cons_succ, List.getElem_cons_zero, List.setIfInBounds_toArray, List.set_cons_zero, List.set_cons_succ]
  refine p_take 12 (o := _) rfl (by kernel_rfl) (by kernel_rfl) (by kernel_rfl) (by simp [Region.wanted, yielded]) (.slice A3 n3 c3) (fun _ _ _ h => h) (fun W hW => run_move (by rfl) (by simp [Act.eval]) W) ?_
  simp only [Act.put, List.getElem_toArray, List.getElem_cons_succ, List.getElem_cons_zero, List.setIfInBounds_toArray, List.set_cons_zero, List.set_cons_succ]
  refine p_take 15 (o := _) rfl (by kernel_rfl) (by kernel_rfl) (by kernel_rfl) (by simp [Region.wanted, yielded]) (.int .i64 h) (fun _ _ _ h => h) (fun W hW => run_move (by rfl) (by simp [Act.eval]) W) ?_
  simp only [Act.put, List.getElem_toArray, List.getElem_cons_succ, List.getElem_cons_zero, List.setIfInBounds_toArray, List.set_cons_zero, List.set_cons_succ]
  refine p_take 16 (o := _) rfl (by kernel_rfl) (by kernel_rfl) (by kernel_rfl) (by simp [Region.wanted, yielded]) (.slice A2 n2 c2) (fun _ _ _ h => h) (fun W hW => run_move (by rfl) (by simp [Act.eval]) W) ?_
  simp only [Act.put, List.getElem_toArray, List.getElem_cons_succ, List.getElem_cons_zero, List.setIfInBounds_toArray, List.set_cons_zero, List.set_cons_succ]
  refine p_take 17 (o := _) rfl (by kernel_rfl) (by kernel_rfl) (by kernel_rfl) (by simp [Region.wanted, yielded]) (.slice A3 n3 c3) (fun _ _ _ h => h) (fun W hW => run_move (by rfl) (by simp [Act.eval]) W) ?_
  simp only [Act.put, List.getElem_toArray, List.getElem_cons_succ, List.getElem_cons_zero, List.setIfInBounds_toArray, List.set_cons_zero, List.set_cons_succ]
  refine p_one 13 (by kernel_rfl) (fun W hW _ => ?_)
  refine op_call (o := _) rfl (by simp [Region.wanted, yielded]) 15 _ _ rfl #[.int .i64 h, .slice A2 n2 c2, .slice A3 n3 c3] (by simp [Act.eval]) (enter_finished2 _) ?_
  refine (finished_any h A2 n2 c2 a A3 n3 c3 b W (hW.reads0 ra) (by omega) (hW.reads0 rb) (by omega) (hW.tabs htb)).mono ?_
  rintro e W' ⟨v, rfl, own, hE⟩
  rw [HFI.out] at own
  obtain ⟨Ax3, cx3, e1⟩ := own.slice
  obtain ⟨nx3, Hnx3⟩ : ∃ x, Hd (List.length FI = x) := ⟨_, ⟨rfl⟩⟩
  rw [Hnx3.out] at e1
  subst e1
  have hrd : ReadsB W' W'.heap.size Ax3 nx3 FI := ⟨Hnx3.out, own.reads_any.2.is⟩
  have hN : Held w8 (⟨Ax3, nx3, cx3, FI⟩ :: [⟨Ax2, nx2, cx2, UP⟩, ⟨Ax1, nx1, cx1, UP⟩]) [] W' := (hW.below hE).cons hrd
  refine ⟨_, rfl, Next.mk (Held w8 (⟨Ax3, nx3, cx3, FI⟩ :: [⟨Ax2, nx2, cx2, UP⟩, ⟨Ax1, nx1, cx1, UP⟩]) []) (fun _ => True) (fun _ h => h.tail) hN trivial ?_⟩
  clear hN hrd own hE hW
  simp only [Act.put, List.getElem_toArray, List.getElem_cons_succ, List.getElem_cons_zero, List.setIfInBounds_toArray, List.set_cons_zero, List.set_cons_succ]
  refine p_take 14 (o := _) rfl (by kernel_rfl) (by kernel_rfl) (by kernel_rfl) (by simp [Region.wanted, yielded]) (.string (str FI)) (fun _ _ _ h => h) (fun W hW => run_toStr (by rfl) Tryz.underlying25 Tryz.underlying5 Tryz.underlying9 _ Ax3 nx3 cx3 FI (by simp [Act.eval]) (hW.reads ⟨Ax3, nx3, cx3, FI⟩ (by simp))) ?_
  simp only [Act.put, List.getElem_toArray, List.getElem_cons_succ, List.getElem_cons_zero, List.setIfInBounds_toArray, List.set_cons_zero, List.set_cons_succ]
  refine p_one 18 (by kernel_rfl) (fun W hW _ => ?_)
  refine op_call (o := _) rfl (by simp [Region.wanted, yielded]) 16 _ _ rfl #[.int .i64 h, .slice A2 n2 c2, .slice A3 n3 c3] (by simp [Act.eval]) (enter_rfinished _) ?_
  refine (rfinished_any h A2 n2 c2 a A3 n3 c3 b W (hW.reads0 ra) (by omega) (hW.reads0 rb) (by omega)).mono ?_
  rintro e W' ⟨v, rfl, own, hE⟩
  rw [HFI.out] at own
  obtain ⟨Ax4, cx4, e1⟩ := own.slice
  obtain ⟨nx4, Hnx4⟩ : ∃ x, Hd (List.length FI = x) := ⟨_, ⟨rfl⟩⟩
  rw [Hnx4.out] at e1
  subst e1
  have hrd : ReadsB W' W'.heap.size Ax4 nx4 FI := ⟨Hnx4.out, own.reads_any.2.is⟩
  have hN : Held w8 (⟨Ax4, nx4, cx4, FI⟩ :: [⟨Ax3, nx3, cx3, FI⟩, ⟨Ax2, nx2, cx2, UP⟩, ⟨Ax1, nx1, cx1, UP⟩]) [] W' := (hW.below hE).cons hrd
  refine ⟨_, rfl, Next.mk (Held w8 (⟨Ax4, nx4, cx4, FI⟩ :: [⟨Ax3, nx3, cx3, FI⟩, ⟨Ax2, nx2, cx2, UP⟩, ⟨Ax1, nx1, cx1, UP⟩]) []) (fun _ => True) (fun _ h => h.tail) hN trivial ?_⟩
  clear hN hrd own hE hW
  simp only [Act.put, List.getElem_toArray, List.getElem_cons_succ, List.getElem_cons_zero, List.setIfInBounds_toArray, List.set_cons_zero, List.set_cons_succ]
  refine p_take 19 (o := _) rfl (by kernel_rfl) (by kernel_rfl) (by kernel_rfl) (by simp [Region.wanted, yielded]) (.string (str FI)) (fun _ _ _ h => h) (fun W hW => run_toStr (by rfl) Tryz.underlying25 Tryz.underlying5 Tryz.underlying9 _ Ax4 nx4 cx4 FI (by simp [Act.eval]) (hW.reads ⟨Ax4, nx4, cx4, FI⟩ (by simp))) ?_
  simp only [Act.put, List.getElem_toArray, List.getElem_cons_succ, List.getElem_cons_zero, List.setIfInBounds_toArray, List.set_cons_zero, List.set_cons_succ]
  refine p_take 20 (o := _) rfl (by kernel_rfl) (by kernel_rfl) (by kernel_rfl) (by simp [Region.wanted, yielded]) (.bool true) (fun _ _ _ h => h) (fun W hW => run_eqT (by rfl) FI FI (rfl) (by simp [Act.eval]) (by simp [Act.eval]) W) ?_
  simp only [Act.put, List.getElem_toArray, List.getElem_cons_succ, List.getElem_cons_zero, List.setIfInBounds_toArray, List.set_cons_zero, List.set_cons_succ]
  refine p_take 21 (o := _) rfl (by kernel_rfl) (by kernel_rfl) (by kernel_rfl) (wanted_plain rfl) (.bool true) (fun _ _ _ h => h) (fun W hW => run_pick (b := true) (by rfl) (by simp [Act.eval]) (by simp [Act.eval]) W) ?_
  simp only [Act.put, List.getElem_toArray, List.getElem_cons_succ, List.getElem_cons_zero, List.setIfInBounds_toArray, List.set_cons_zero, List.set_cons_succ]
  refine p_take 22 (o := _) rfl (by kernel_rfl) (by kernel_rfl) (by kernel_rfl) (wanted_plain rfl) (.bool true) (fun _ _ _ h => h) (fun W hW => run_move (by rfl) (by simp [Act.eval]) W) ?_
  simp only [Act.put, List.getElem_toArray, List.getElem_cons_succ, List.getElem_cons_zero, List.setIfInBounds_toArray, List.set_cons_zero, List.set_cons_succ]
  refine p_take 23 (o := _) rfl (by kernel_rfl) (by kernel_rfl) (by kernel_rfl) (by simp [Region.wanted, yielded]) (.int .i64 h) (fun _ _ _ h => h) (fun W hW => run_move (by rfl) (by simp [Act.eval]) W) ?_
  simp only [Act.put, List.getElem_toArray, List.getElem_cons_succ, List.getElem_cons_zero, List.setIfInBounds_toArray, List.set_cons_zero, List.set_cons_succ]
  refine p_take 24 (o := _) rfl (by kernel_rfl) (by kernel_rfl) (by kernel_rfl) (by simp [Region.wanted, yielded]) (.slice A2 n2 c2) (fun _ _ _ h => h) (fun W hW => run_move (by rfl) (by simp [Act.eval]) W) ?_
  simp only [Act.put, List.getElem_toArray, List.getElem_cons_succ, List.getElem_cons_zero, List.setIfInBounds_toArray, List.set_cons_zero, List.set_cons_succ]
  refine p_take 25 (o := _) rfl (by kernel_rfl) (by kernel_rfl) (by kernel_rfl) (by simp [Region.wanted, yielded]) (.slice A3 n3 c3) (fun _ _ _ h => h) (fun W hW => run_move (by rfl) (by simp [Act.eval]) W) ?_
  simp only [Act.put, List.getElem_toArray, List.getElem_cons_succ, List.getElem_cons_zero, List.setIfInBounds_toArray, List.set_cons_zero, List.set_cons_succ]
  refine p_take 28 (o := _) rfl (by kernel_rfl) (by kernel_rfl) (by kernel_rfl) (by simp [Region.wanted, yielded]) (.int .i64 h) (fun _ _ _ h => h) (fun W hW => run_move (by rfl) (by simp [Act.eval]) W) ?_
  simp only [Act.put, List.getElem_toArray, List.getElem_cons_succ, List.getElem_cons_zero, List.setIfInBounds_toArray, List.set_cons_zero, List.set_cons_succ]
  refine p_take 29 (o := _) rfl (by kernel_rfl) (by kernel_rfl) (by kernel_rfl) (by simp [Region.wanted, yielded]) (.slice A2 n2 c2) (fun _ _ _ h => h) (fun W hW => run_move (by rfl) (by simp [Act.eval]) W) ?_
  simp only [Act.put, List.getElem_toArray, List.getElem_cons_succ, List.getElem_cons_zero, List.setIfInBounds_toArray, List.set_cons_zero, List.set_cons_succ]
  refine p_take 30 (o := _) rfl (by kernel_rfl) (by kernel_rfl) (by kernel_rfl) (by simp [Region.wanted, yielded]) (.slice A3 n3 c3) (fun _ _ _ h => h) (fun W hW => run_move (by rfl) (by simp [Act.eval]) W) ?_
  simp only [Act.put, List.getElem_toArray, List.getElem_cons_succ, List.getElem_cons_zero, List.setIfInBounds_toArray, List.set_cons_zero, List.set_cons_succ]
  refine p_one 26 (by kernel_rfl) (fun W hW _ => ?_)
  refine op_call (o := _) rfl (by simp [Region.wanted, yielded]) 17 _ _ rfl #[.int .i64 h, .slice A2 n2 c2, .slice A3 n3 c3] (by simp [Act.eval]) (enter_binder _) ?_
  refine (binder_any h A2 n2 c2 a A3 n3 c3 b W (hW.reads0 ra) (by omega) (hW.reads0 rb) (by omega) (hW.tabs htb)).mono ?_
  rintro e W' ⟨v, rfl, own, hE⟩
  rw [HBI.out] at own
  obtain ⟨Ax5, cx5, e1⟩ := own.slice
  obtain ⟨nx5, Hnx5⟩ : ∃ x, Hd (List.length BI = x) := ⟨_, ⟨rfl⟩⟩
  rw [Hnx5.out] at e1
  subst e1
  have hrd : ReadsB W' W'.heap.size Ax5 nx5 BI := ⟨Hnx5.out, own.reads_any.2.is⟩
  have hN : Held w8 (⟨Ax5, nx5, cx5, BI⟩ :: [⟨Ax4, nx4, cx4, FI⟩, ⟨Ax3, nx3, cx3, FI⟩, ⟨Ax2, nx2, cx2, UP⟩, ⟨Ax1, nx1, cx1, UP⟩]) [] W' := (hW.below hE).cons hrd
  refine ⟨_, rfl, Next.mk (Held w8 (⟨Ax5, nx5, cx5, BI⟩ :: [⟨Ax4, nx4, cx4, FI⟩, ⟨Ax3, nx3, cx3, FI⟩, ⟨Ax2, nx2, cx2, UP⟩, ⟨Ax1, nx1, cx1, UP⟩]) []) (fun _ => True) (fun _ h => h.tail) hN trivial ?_⟩
  clear hN hrd own hE hW
  simp only [Act.put, List.getElem_toArray, List.getElem_cons_succ, List.getElem_cons_zero, List.setIfInBounds_toArray, List.set_cons_zero, List.set_cons_succ]
  refine p_take 27 (o := _) rfl (by kernel_rfl) (by kernel_rfl) (by kernel_rfl) (by simp [Region.wanted, yielded]) (.string (str BI)) (fun _ _ _ h => h) (fun W hW => run_toStr (by rfl) Tryz.underlying25 Tryz.underlying5 Tryz.underlying9 _ Ax5 nx5 cx5 BI (by simp [Act.eval]) (hW.reads ⟨Ax5, nx5, cx5, BI⟩ (by simp))) ?_
  simp only [Act.put, List.getElem_toArray, List.getElem_cons_succ, List.getElem_cons_zero, List.setIfInBounds_toArray, List.set_cons_zero, List.set_cons_succ]
  refine p_one 31 (by kernel_rfl) (fun W hW _ => ?_)
  refine op_call (o := _) rfl (by simp [Region.wanted, yielded]) 18 _ _ rfl #[.int .i64 h, .slice A2 n2 c2, .slice A3 n3 c3] (by simp [Act.eval]) (enter_rbinder _) ?_
  refine (rbinder_any h A2 n2 c2 a A3 n3 c3 b W (hW.reads0 ra) (by omega) (hW.reads0 rb) (by omega)).mono ?_
  rintro e W' ⟨v, rfl, own, hE⟩
  rw [HBI.out] at own
  obtain ⟨Ax6, cx6, e1⟩ := own.slice
  obtain ⟨nx6, Hnx6⟩ : ∃ x, Hd (List.length BI = x) := ⟨_, ⟨rfl⟩⟩
  rw [Hnx6.out] at e1
  subst e1
  have hrd : ReadsB W' W'.heap.size Ax6 nx6 BI := ⟨Hnx6.out, own.reads_any.2.is⟩
  have hN : Held w8 (⟨Ax6, nx6, cx6, BI⟩ :: [⟨Ax5, nx5, cx5, BI⟩, ⟨Ax4, nx4, cx4, FI⟩, ⟨Ax3, nx3, cx3, FI⟩, ⟨Ax2, nx2, cx2, UP⟩, ⟨Ax1, nx1, cx1, UP⟩]) [] W' := (hW.below hE).cons hrd
  refine ⟨_, rfl, Next.mk (Held w8 (⟨Ax6, nx6, cx6, BI⟩ :: [⟨Ax5, nx5, cx5, BI⟩, ⟨Ax4, nx4, cx4, FI⟩, ⟨Ax3, nx3, cx3, FI⟩, ⟨Ax2, nx2, cx2, UP⟩, ⟨Ax1, nx1, cx1, UP⟩]) []) (fun _ => True) (fun _ h => h.tail) hN trivial ?_⟩
  clear hN hrd own hE hW
  simp only [Act.put, List.getElem_toArray, List.getElem_cons_succ, List.getElem_cons_zero, List.setIfInBounds_toArray, List.set_cons_zero, List.set_cons_succ]
  refine p_take 32 (o := _) rfl (by kernel_rfl) (by kernel_rfl) (by kernel_rfl) (by simp [Region.wanted, yielded]) (.string (str BI)) (fun _ _ _ h => h) (fun W hW => run_toStr (by rfl) Tryz.underlying25 Tryz.underlying5 Tryz.underlying9 _ Ax6 nx6 cx6 BI (by simp [Act.eval]) (hW.reads ⟨Ax6, nx6, cx6, BI⟩ (by simp))) ?_
  simp only [Act.put, List.getElem_toArray, List.getElem_cons_succ, List.getElem_cons_zero, List.setIfInBounds_toArray, List.set_cons_zero, List.set_cons_succ]
  refine p_take 33 (o := _) rfl (by kernel_rfl) (by kernel_rfl) (by kernel_rfl) (by simp [Region.wanted, yielded]) (.bool true) (fun _ _ _ h => h) (fun W hW => run_eqT (by rfl) BI BI (rfl) (by simp [Act.eval]) (by simp [Act.eval]) W) ?_
  simp only [Act.put, List.getElem_toArray, List.getElem_cons_succ, List.getElem_cons_zero, List.setIfInBounds_toArray, List.set_cons_zero, List.set_cons_succ]
  refine p_take 34 (o := _) rfl (by kernel_rfl) (by kernel_rfl) (by kernel_rfl) (wanted_plain rfl) (.bool true) (fun _ _ _ h => h) (fun W hW => run_pick (b := true) (by rfl) (by simp [Act.eval]) (by simp [Act.eval]) W) ?_
  simp only [Act.put, List.getElem_toArray, List.getElem_cons_succ, List.getElem_cons_zero, List.setIfInBounds_toArray, List.set_cons_zero, List.set_cons_succ]
  refine p_take 35 (o := _) rfl (by kernel_rfl) (by kernel_rfl) (by kernel_rfl) (wanted_plain rfl) (.bool true) (fun _ _ _ h => h) (fun W hW => run_move (by rfl) (by simp [Act.eval]) W) ?_
  simp only [Act.put, List.getElem_toArray, List.getElem_cons_succ, List.getElem_cons_zero, List.setIfInBounds_toArray, List.set_cons_zero, List.set_cons_succ]
  refine p_take 36 (o := _) rfl (by kernel_rfl) (by kernel_rfl) (by kernel_rfl) (by simp [Region.wanted, yielded]) (.int .i64 h) (fun _ _ _ h => h) (fun W hW => run_move (by rfl) (by simp [Act.eval]) W) ?_
  simp only [Act.put, List.getElem_toArray, List.getElem_cons_succ, List.getElem_cons_zero, List.setIfInBounds_toArray, List.set_cons_zero, List.set_cons_succ]
  refine p_take 37 (o := _) rfl (by kernel_rfl) (by kernel_rfl) (by kernel_rfl) (by simp [Region.wanted, yielded]) (.slice A2 n2 c2) (fun _ _ _ h => h) (fun W hW => run_move (by rfl) (by simp [Act.eval]) W) ?_
  simp only [Act.put, List.getElem_toArray, List.getElem_cons_succ, List.getElem_cons_zero, List.setIfInBounds_toArray, List.set_cons_zero, List.set_cons_succ]
  refine p_take 38 (o := _) rfl (by kernel_rfl) (by kernel_rfl) (by kernel_rfl) (by simp [Region.wanted, yielded]) (.slice A3 n3 c3) (fun _ _ _ h => h) (fun W hW => run_move (by rfl) (by simp [Act.eval]) W) ?_
  simp only [Act.put, List.getElem_toArray, List.getElem_cons_succ, List.getElem_cons_zero, List.setIfInBounds_toArray, List.set_cons_zero, List.set_cons_succ]
  refine p_take 41 (o := _) rfl (by kernel_rfl) (by kernel_rfl) (by kernel_rfl) (by simp [Region.wanted, yielded]) (.int .i64 h) (fun _ _ _ h => h) (fun W hW => run_move (by rfl) (by simp [Act.eval]) W) ?_
  simp only [Act.put, List.getElem_toArray, List.getElem_cons_succ, List.getElem_cons_zero, List.setIfInBounds_toArray, List.set_cons_zero, List.set_cons_succ]
  refine p_take 42 (o := _) rfl (by kernel_rfl) (by kernel_rfl) (by kernel_rfl) (by simp [Region.wanted, yielded]) (.slice A2 n2 c2) (fun _ _ _ h => h) (fun W hW => run_move (by rfl) (by simp [Act.eval]) W) ?_
  simp only [Act.put, List.getElem_toArray, List.getElem_cons_succ, List.getElem_cons_zero, List.setIfInBounds_toArray, List.set_cons_zero, List.set_cons_succ]
  refine p_take 43 (o := _) rfl (by kernel_rfl) (by kernel_rfl) (by kernel_rfl) (by simp [Region.wanted, yielded]) (.slice A3 n3 c3) (fun _ _ _ h => h) (fun W hW => run_move (by rfl) (by simp [Act.eval]) W) ?_
  simp only [Act.put, List.getElem_toArray, List.getElem_cons_succ, List.getElem_cons_zero, List.setIfInBounds_toArray, List.set_cons_zero, List.set_cons_succ]
  refine p_one 39 (by kernel_rfl) (fun W hW _ => ?_)
  refine op_call (o := _) rfl (by simp [Region.wanted, yielded]) 19 _ _ rfl #[.int .i64 h, .slice A2 n2 c2, .slice A3 n3 c3] (by simp [Act.eval]) (enter_resumed _) ?_
  refine (resumed_any h A2 n2 c2 a A3 n3 c3 b W (hW.reads0 ra) (by omega) (hW.reads0 rb) (hW.tabs htb)).mono ?_
  rintro e W' ⟨v, rfl, own, hE⟩
  rw [HRS.out] at own
  obtain ⟨Ax7, cx7, e1⟩ := own.slice
  obtain ⟨nx7, Hnx7⟩ : ∃ x, Hd (List.length RS = x) := ⟨_, ⟨rfl⟩⟩
  rw [Hnx7.out] at e1
  subst e1
  have hrd : ReadsB W' W'.heap.size Ax7 nx7 RS := ⟨Hnx7.out, own.reads_any.2.is⟩
  have hN : Held w8 (⟨Ax7, nx7, cx7, RS⟩ :: [⟨Ax6, nx6, cx6, BI⟩, ⟨Ax5, nx5, cx5, BI⟩, ⟨Ax4, nx4, cx4, FI⟩, ⟨Ax3, nx3, cx3, FI⟩, ⟨Ax2, nx2, cx2, UP⟩, ⟨Ax1, nx1, cx1, UP⟩]) [] W' := (hW.below hE).cons hrd
  refine ⟨_, rfl, Next.mk (Held w8 (⟨Ax7, nx7, cx7, RS⟩ :: [⟨Ax6, nx6, cx6, BI⟩, ⟨Ax5, nx5, cx5, BI⟩, ⟨Ax4, nx4, cx4, FI⟩, ⟨Ax3, nx3, cx3, FI⟩, ⟨Ax2, nx2, cx2, UP⟩, ⟨Ax1, nx1, cx1, UP⟩]) []) (fun _ => True) (fun _ h => h.tail) hN trivial ?_⟩
  clear hN hrd own hE hW
  simp only [Act.put, List.getElem_toArray, List.getElem_cons_succ, List.getElem_cons_zero, List.setIfInBounds_toArray, List.set_cons_zero, List.set_cons_succ]
  refine p_take 40 (o := _) rfl (by kernel_rfl) (by kernel_rfl) (by kernel_rfl) (by simp [Region.wanted, yielded]) (.string (str RS)) (fun _ _ _ h => h) (fun W hW => run_toStr (by rfl) Tryz.underlying25 Tryz.underlying5 Tryz.underlying9 _ Ax7 nx7 cx7 RS (by simp [Act.eval]) (hW.reads ⟨Ax7, nx7, cx7, RS⟩ (by simp))) ?_
  simp only [Act.put, List.getElem_toArray, List.getElem_cons_succ, List.getElem_cons_zero, List.setIfInBounds_toArray, List.set_cons_zero, List.set_cons_succ]
  refine p_one 44 (by kernel_rfl) (fun W hW _ => ?_)
  refine op_call (o := _) rfl (by simp [Region.wanted, yielded]) 20 _ _ rfl #[.int .i64 h, .slice A2 n2 c2, .slice A3 n3 c3] (by simp [Act.eval]) (enter_rresumed _) ?_
  refine (rresumed_any h A2 n2 c2 a A3 n3 c3 b W (hW.reads0 ra) (by omega) (hW.reads0 rb)).mono ?_
  rintro e W' ⟨v, rfl, own, hE⟩
  rw [HRS.out] at own
  obtain ⟨Ax8, cx8, e1⟩ := own.slice
  obtain ⟨nx8, Hnx8⟩ : ∃ x, Hd (List.length RS = x) := ⟨_, ⟨rfl⟩⟩
  rw [Hnx8.out] at e1
  subst e1
  have hrd : ReadsB W' W'.heap.size Ax8 nx8 RS := ⟨Hnx8.out, own.reads_any.2.is⟩
  have hN : Held w8 (⟨Ax8, nx8, cx8, RS⟩ :: [⟨Ax7, nx7, cx7, RS⟩, ⟨Ax6, nx6, cx6, BI⟩, ⟨Ax5, nx5, cx5, BI⟩, ⟨Ax4, nx4, cx4, FI⟩, ⟨Ax3, nx3, cx3, FI⟩, ⟨Ax2, nx2, cx2, UP⟩, ⟨Ax1, nx1, cx1, UP⟩]) [] W' := (hW.below hE).cons hrd
  refine ⟨_, rfl, Next.mk (Held w8 (⟨Ax8, nx8, cx8, RS⟩ :: [⟨Ax7, nx7, cx7, RS⟩, ⟨Ax6, nx6, cx6, BI⟩, ⟨Ax5, nx5, cx5, BI⟩, ⟨Ax4, nx4, cx4, FI⟩, ⟨Ax3, nx3, cx3, FI⟩, ⟨Ax2, nx2, cx2, UP⟩, ⟨Ax1, nx1, cx1, UP⟩]) []) (fun _ => True) (fun _ h => h.tail) hN trivial ?_⟩
  clear hN hrd own hE hW
  simp only [Act.put, List.getElem_toArray, List.getElem_cons_succ, List.getElem_cons_zero, List.setIfInBounds_toArray, List.set_cons_zero, List.set_cons_succ]
  refine p_take 45 (o := _) rfl (by kernel_rfl) (by kernel_rfl) (by kernel_rfl) (by simp [Region.wanted, yielded]) (.string (str RS)) (fun _ _ _ h => h) (fun W hW => run_toStr (by rfl) Tryz.underlying25 Tryz.underlying5 Tryz.underlying9 _ Ax8 nx8 cx8 RS (by simp [Act.eval]) (hW.reads ⟨Ax8, nx8, cx8, RS⟩ (by simp))) ?_
  simp only [Act.put, List.getElem_toArray, List.getElem_cons_succ, List.getElem_cons_zero, List.setIfInBounds_toArray, List.set_cons_zero, List.set_cons_succ]
  refine p_take 46 (o := _) rfl (by kernel_rfl) (by kernel_rfl) (by kernel_rfl) (by simp [Region.wanted, yielded]) (.bool true) (fun _ _ _ h => h) (fun W hW => run_eqT (by rfl) RS RS (rfl) (by simp [Act.eval]) (by simp [Act.eval]) W) ?_
  simp only [Act.put, List.getElem_toArray, List.getElem_cons_succ, List.getElem_cons_zero, List.setIfInBounds_toArray, List.set_cons_zero, List.set_cons_succ]
  refine p_take 47 (o := _) rfl (by kernel_rfl) (by kernel_rfl) (by kernel_rfl) (wanted_plain rfl) (.bool true) (fun _ _ _ h => h) (fun W hW => run_pick (b := true) (by rfl) (by simp [Act.eval]) (by simp [Act.eval]) W) ?_
  simp only [Act.put, List.getElem_toArray, List.getElem_cons_succ, List.getElem_cons_zero, List.setIfInBounds_toArray, List.set_cons_zero, List.set_cons_succ]
  refine p_take 48 (o := _) rfl (by kernel_rfl) (by kernel_rfl) (by kernel_rfl) (wanted_plain rfl) (.bool true) (fun _ _ _ h => h) (fun W hW => run_assign (by rfl) (by simp [Act.eval]) W) ?_
  simp only [Act.put, List.getElem_toArray, List.getElem_cons_succ, List.getElem_cons_zero, List.setIfInBounds_toArray, List.set_cons_zero, List.set_cons_succ]
  refine p_done (by kernel_rfl) (fun W hW => ?_) _
  go_wp2
  go_ret
  exact ⟨rfl, hw8.trans (hW.old.mono hw8.size)⟩
end Go.Proofs.YtbcboldepghgpaaGreatDoor
