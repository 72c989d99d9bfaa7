/-
  The walk of SchedLabels.
-/
import Derived.Test.YtkacibgbpeeflaaDoorLawA
import Derived.Test.YtkacibgbpeeflaaDoorHeldP
import Derived.Test.YtkacibgbpeeflaaDoorSchR
import Derived.Deep.DeepCutAuto
set_option linter.unusedVariables false
set_option linter.unusedSimpArgs false
namespace Go.Proofs.YtkacibgbpeeflaaDoor
open Go.RowKit
theorem enter_rderive (args : Array Value) (w : World) : (callFunc 10 args).run Tryd.prog w = .ok (.enter 10 args) w := by kernel_rfl
set_option maxHeartbeats 8000000 in
set_option maxRecDepth 100000 in
theorem labels_law (h : Int) (A1 : Option Addr) (n1 c1 : Nat) (sec lab : List UInt8) (A3 : Option Addr) (n3 c3 : Nat) (ctx : List UInt8) (n : Int) (w : World) (hr1 : ReadsB w w.heap.size A1 n1 sec) (hn1 : n1 ≤ 140737488351232) (hr3 : ReadsB w w.heap.size A3 n3 ctx) (htb0 : Tabs w) :
    Calls Tryd.prog 3 #[.int .i64 h, .slice A1 n1 c1, .string (str lab), .slice A3 n3 c3, .int .i64 n] w fun e w' => e = .returned (.bool true) ∧ Below w.heap.size w w' := by
  obtain ⟨EX, HEX⟩ : ∃ x, Hd (Sched.expand h sec lab ctx n = x) := ⟨_, ⟨rfl⟩⟩
  obtain ⟨er, HER⟩ : ∃ x, Hd (Sched.err h lab ctx n = x) := ⟨_, ⟨rfl⟩⟩
  obtain ⟨DD, HDD⟩ : ∃ x, Hd (Sched.derive h sec lab ctx = x) := ⟨_, ⟨rfl⟩⟩
  have rd1 : ∀ W, Below w.heap.size w W → ReadsB W W.heap.size A1 n1 sec := fun W hW => ⟨hr1.len, (hr1.is.below hW).more hW.size⟩
  have rd3 : ∀ W, Below w.heap.size w W → ReadsB W W.heap.size A3 n3 ctx := fun W hW => ⟨hr3.len, (hr3.is.below hW).more hW.size⟩
  go_enter Tryd.func3, Tryd.ntmps3
  go_upto_region 4 with (first | (go_at_call 8; refine (rsexpand_any h A1 n1 c1 sec lab A3 n3 c3 ctx n w2 (rd1 w2 hw2) (by omega) (rd3 w2 hw2)).mono ?_; rintro e w3 ⟨v14, rfl, o14, hE3⟩; rw [HEX.out] at o14; rw [HER.out]; obtain ⟨A14, c14, e14⟩ := o14.slice; obtain ⟨n14, Hn14⟩ : ∃ x, Hd (List.length EX = x) := ⟨_, ⟨rfl⟩⟩; rw [Hn14.out] at e14; subst e14; have hw3 := hw2.trans (hE3.mono hw2.size)) | (go_at_call 7; refine (sexpand_any h A1 n1 c1 sec lab A3 n3 c3 ctx n w1 (rd1 w1 hw1) (by omega) (rd3 w1 hw1) (htb0.below hw1)).mono ?_; rintro e w2 ⟨v12, rfl, o12, hE2⟩; rw [HEX.out] at o12; rw [HER.out]; obtain ⟨A12, c12, e12⟩ := o12.slice; obtain ⟨n12, Hn12⟩ : ∃ x, Hd (List.length EX = x) := ⟨_, ⟨rfl⟩⟩; rw [Hn12.out] at e12; subst e12; have hw2 := hw1.trans (hE2.mono hw1.size)) | (go_at_call 6; refine (head19_any w htb0).mono ?_; rintro e w1 ⟨rfl, hw1⟩))
  have htb := htb0.below hw3
  have r1 := rd1 w3 hw3
  have r3 := rd3 w3 hw3
  have r12 : ReadsB w3 w3.heap.size A12 n12 EX := ⟨Hn12.out, ((o12.reads_any.2.is).below hE3).more hE3.size⟩
  have r14 : ReadsB w3 w3.heap.size A14 n14 EX := ⟨Hn14.out, o14.reads_any.2.is⟩
  refine p_start (Held w3 [] []) (by kernel_rfl) (Held.nil (Below.refl _ _).drew) ?_
  refine p_take 0 (o := _) rfl (by kernel_rfl) (by kernel_rfl) (by kernel_rfl) (wanted_plain rfl) (.bool true) (fun _ _ _ h => h) (fun W hW => run_move (by rfl) (by simp [Act.eval]) W) ?_
  simp only [Act.put, List.getElem_toArray, List.getElem_cons_succ, List.getElem_cons_zero, List.setIfInBounds_toArray, List.set_cons_zero, List.set_cons_succ]
  refine p_take 1 (o := _) rfl (by kernel_rfl) (by kernel_rfl) (by kernel_rfl) (wanted_plain rfl) (.bool true) (fun _ _ _ h => h) (fun W hW => run_move (by rfl) (by simp [Act.eval]) W) ?_
  simp only [Act.put, List.getElem_toArray, List.getElem_cons_succ, List.getElem_cons_zero, List.setIfInBounds_toArray, List.set_cons_zero, List.set_cons_succ]
  refine p_take 2 (o := _) rfl (by kernel_rfl) (by kernel_rfl) (by kernel_rfl) (by simp [Region.wanted, yielded]) (.slice A12 n12 c12) (fun _ _ _ h => h) (fun W hW => run_move (by rfl) (by simp [Act.eval]) W) ?_
  simp only [Act.put, List.getElem_toArray, List.getElem_cons_succ, List.getElem_cons_zero, List.setIfInBounds_toArray, List.set_cons_zero, List.set_cons_succ]
  refine p_take 3 (o := _) rfl (by kernel_rfl) (by kernel_rfl) (by kernel_rfl) (by simp [Region.wanted, yielded]) (.string (str EX)) (fun _ _ _ h => h) (fun W hW => run_toStr (by rfl) Tryd.underlying23 Tryd.underlying5 Tryd.underlying9 _ A12 n12 c12 EX (by simp [Act.eval]) (hW.reads0 r12)) ?_
  simp only [Act.put, List.getElem_toArray, List.getElem_cons_succ, List.getElem_cons_zero, List.setIfInBounds_toArray, List.set_cons_zero, List.set_cons_succ]
  refine p_take 4 (o := _) rfl (by kernel_rfl) (by kernel_rfl) (by kernel_rfl) (by simp [Region.wanted, yielded]) (.slice A14 n14 c14) (fun _ _ _ h => h) (fun W hW => run_move (by rfl) (by simp [Act.eval]) W) ?_
  simp only [Act.put, List.getElem_toArray, List.getElem_cons_succ, List.getElem_cons_zero, List.setIfInBounds_toArray, List.set_cons_zero, List.set_cons_succ]
  refine p_take 5 (o := _) rfl (by kernel_rfl) (by kernel_rfl) (by kernel_rfl) (by simp [Region.wanted, yielded]) (.string (str EX)) (fun _ _ _ h => h) (fun W hW => run_toStr (by rfl) Tryd.underlying23 Tryd.underlying5 Tryd.underlying9 _ A14 n14 c14 EX (by simp [Act.eval]) (hW.reads0 r14)) ?_
  simp only [Act.put, List.getElem_toArray, List.getElem_cons_succ, List.getElem_cons_zero, List.setIfInBounds_toArray, List.set_cons_zero, List.set_cons_succ]
  refine p_take 6 (o := _) rfl (by kernel_rfl) (by kernel_rfl) (by kernel_rfl) (by simp [Region.wanted, yielded]) (.bool true) (fun _ _ _ h => h) (fun W hW => run_eqT (by rfl) EX EX (rfl) (by simp [Act.eval]) (by simp [Act.eval]) W) ?_
  simp only [Act.put, List.getElem_toArray, List.getElem_cons_succ, List.getElem_cons_zero, List.setIfInBounds_toArray, List.set_cons_zero, List.set_cons_succ]
  refine p_take 7 (o := _) rfl (by kernel_rfl) (by kernel_rfl) (by kernel_rfl) (wanted_plain rfl) (.bool true) (fun _ _ _ h => h) (fun W hW => run_pick (b := true) (by rfl) (by simp [Act.eval]) (by simp [Act.eval]) W) ?_
  simp only [Act.put, List.getElem_toArray, List.getElem_cons_succ, List.getElem_cons_zero, List.setIfInBounds_toArray, List.set_cons_zero, List.set_cons_succ]
  refine p_take 8 (o := _) rfl (by kernel_rfl) (by kernel_rfl) (by kernel_rfl) (wanted_plain rfl) (.bool true) (fun _ _ _ h => h) (fun W hW => run_move (by rfl) (by simp [Act.eval]) W) ?_
  simp only [Act.put, List.getElem_toArray, List.getElem_cons_succ, List.getElem_cons_zero, List.setIfInBounds_toArray, List.set_cons_zero, List.set_cons_succ]
  refine p_take 9 (o := _) rfl (by kernel_rfl) (by kernel_rfl) (by kernel_rfl) (by simp [Region.wanted, yielded]) (.int .i64 er) (fun _ _ _ h => h) (fun W hW => run_move (by rfl) (by simp [Act.eval]) W) ?_
  simp only [Act.put, List.getElem_toArray, List.getElem_cons_succ, List.getElem_cons_zero, List.setIfInBounds_toArray, List.set_cons_zero, List.set_cons_succ]
  refine p_take 10 (o := _) rfl (by kernel_rfl) (by kernel_rfl) (by kernel_rfl) (by simp [Region.wanted, yielded]) (.int .i64 er) (fun _ _ _ h => h) (fun W hW => run_move (by rfl) (by simp [Act.eval]) W) ?_
  simp only [Act.put, List.getElem_toArray, List.getElem_cons_succ, List.getElem_cons_zero, List.setIfInBounds_toArray, List.set_cons_zero, List.set_cons_succ]
  refine p_take 11 (o := _) rfl (by kernel_rfl) (by kernel_rfl) (by kernel_rfl) (by simp [Region.wanted, yielded]) (.bool true) (fun _ _ _ h => h) (fun W hW => by go_simp) ?_
  simp only [Act.put, List.getElem_toArray, List.getElem_cons_succ, List.getElem_cons_zero, List.setIfInBounds_toArray, List.set_cons_zero, List.set_cons_succ]
  refine p_take 12 (o := _) rfl (by kernel_rfl) (by kernel_rfl) (by kernel_rfl) (wanted_plain rfl) (.bool true) (fun _ _ _ h => h) (fun W hW => run_pick (b := true) (by rfl) (by simp [Act.eval]) (by simp [Act.eval]) W) ?_
  simp only [Act.put, List.getElem_toArray, List.getElem_cons_succ, List.getElem_cons_zero, List.setIfInBounds_toArray, List.set_cons_zero, List.set_cons_succ]
  refine p_take 13 (o := _) rfl (by kernel_rfl) (by kernel_rfl) (by kernel_rfl) (wanted_plain rfl) (.bool true) (fun _ _ _ h => h) (fun W hW => run_move (by rfl) (by simp [Act.eval]) W) ?_
  simp only [Act.put, List.getElem_toArray, List.getElem_cons_succ, List.getElem_cons_zero, List.setIfInBounds_toArray, List.set_cons_zero, List.set_cons_succ]
  refine p_take 14 (o := _) rfl (by kernel_rfl) (by kernel_rfl) (by kernel_rfl) (by simp [Region.wanted, yielded]) (.int .i64 h) (fun _ _ _ h => h) (fun W hW => run_move (by rfl) (by simp [Act.eval]) W) ?_
  simp only [Act.put, List.getElem_toArray, List.getElem_cons_succ, List.getElem_cons_zero, List.setIfInBounds_toArray, List.set_cons_zero, List.set_cons_succ]
  refine p_take 15 (o := _) rfl (by kernel_rfl) (by kernel_rfl) (by kernel_rfl) (by simp [Region.wanted, yielded]) (.slice A1 n1 c1) (fun _ _ _ h => h) (fun W hW => run_move (by rfl) (by simp [Act.eval]) W) ?_
  simp only [Act.put, List.getElem_toArray, List.getElem_cons_succ, List.getElem_cons_zero, List.setIfInBounds_toArray, List.set_cons_zero, List.set_cons_succ]
  refine p_take 16 (o := _) rfl (by kernel_rfl) (by kernel_rfl) (by kernel_rfl) (by simp [Region.wanted, yielded]) (.string (str lab)) (fun _ _ _ h => h) (fun W hW => run_move (by rfl) (by simp [Act.eval]) W) ?_
  simp only [Act.put, List.getElem_toArray, List.getElem_cons_succ, List.getElem_cons_zero, List.setIfInBounds_toArray, List.set_cons_zero, List.set_cons_succ]
  refine p_take 17 (o := _) rfl (by kernel_rfl) (by kernel_rfl) (by kernel_rfl) (by simp [Region.wanted, yielded]) (.slice A3 n3 c3) (fun _ _ _ h => h) (fun W hW => run_move (by rfl) (by simp [Act.eval]) W) ?_
  simp only [Act.put, List.getElem_toArray, List.getElem_cons_succ, List.getElem_cons_zero, List.setIfInBounds_toArray, List.set_cons_zero, List.set_cons_succ]
  refine p_take 20 (o := _) rfl (by kernel_rfl) (by kernel_rfl) (by kernel_rfl) (by simp [Region.wanted, yielded]) (.int .i64 h) (fun _ _ _ h => h) (fun W hW => run_move (by rfl) (by simp [Act.eval]) W) ?_
  simp only [Act.put, List.getElem_toArray, List.getElem_cons_succ, List.getElem_cons_zero, List.setIfInBounds_toArray, List.set_cons_zero, List.set_cons_succ]
  refine p_take 21 (o := _) rfl (by kernel_rfl) (by kernel_rfl) (by kernel_rfl) (by simp [Region.wanted, yielded]) (.slice A1 n1 c1) (fun _ _ _ h => h) (fun W hW => run_move (by rfl) (by simp [Act.eval]) W) ?_
  simp only [Act.put, List.getElem_toArray, List.getElem_cons_succ, List.getElem_cons_zero, List.setIfInBounds_toArray, List.set_cons_zero, List.set_cons_succ]
  refine p_take 22 (o := _) rfl (by kernel_rfl) (by kernel_rfl) (by kernel_rfl) (by simp [Region.wanted, yielded]) (.string (str lab)) (fun _ _ _ h => h) (fun W hW => run_move (by rfl) (by simp [Act.eval]) W) ?_
  simp only [Act.put, List.getElem_toArray, List.getElem_cons_succ, List.getElem_cons_zero, List.setIfInBounds_toArray, List.set_cons_zero, List.set_cons_succ]
  refine p_take 23 (o := _) rfl (by kernel_rfl) (by kernel_rfl) (by kernel_rfl) (by simp [Region.wanted, yielded]) (.slice A3 n3 c3) (fun _ _ _ h => h) (fun W hW => run_move (by rfl) (by simp [Act.eval]) W) ?_
  simp only [Act.put, List.getElem_toArray, List.getElem_cons_succ, List.getElem_cons_zero, List.setIfInBounds_toArray, List.set_cons_zero, List.set_cons_succ]
  refine p_one 18 (by kernel_rfl) (fun W hW _ => ?_)
  refine op_call (o := _) rfl (by simp [Region.wanted, yielded]) 9 _ _ rfl #[.int .i64 h, .slice A1 n1 c1, .string (str lab), .slice A3 n3 c3] (by simp [Act.eval]) (enter_derive _) ?_
  refine (derive_any h A1 n1 c1 sec lab A3 n3 c3 ctx W (hW.reads0 r1) (by omega) (hW.reads0 r3) (hW.tabs htb)).mono ?_
  rintro e W' ⟨v, rfl, own, hE⟩
  rw [HDD.out] at own
  obtain ⟨Ad, cd, e1⟩ := own.slice
  obtain ⟨nd, Hnd⟩ : ∃ x, Hd (List.length DD = x) := ⟨_, ⟨rfl⟩⟩
  rw [Hnd.out] at e1
  subst e1
  have hrd : ReadsB W' W'.heap.size Ad nd DD := ⟨Hnd.out, own.reads_any.2.is⟩
  have hN : Held w3 (⟨Ad, nd, cd, DD⟩ :: []) [] W' := (hW.below hE).cons hrd
  refine ⟨_, rfl, Next.mk (Held w3 (⟨Ad, nd, cd, DD⟩ :: []) []) (fun _ => True) (fun _ h => h.tail) hN trivial ?_⟩
  clear hN hrd own hE hW
  simp only [Act.put, List.getElem_toArray, List.getElem_cons_succ, List.getElem_cons_zero, List.setIfInBounds_toArray, List.set_cons_zero, List.set_cons_succ]
  refine p_take 19 (o := _) rfl (by kernel_rfl) (by kernel_rfl) (by kernel_rfl) (by simp [Region.wanted, yielded]) (.string (str DD)) (fun _ _ _ h => h) (fun W hW => run_toStr (by rfl) Tryd.underlying23 Tryd.underlying5 Tryd.underlying9 _ Ad nd cd DD (by simp [Act.eval]) (hW.reads ⟨Ad, nd, cd, DD⟩ (by simp))) ?_
  simp only [Act.put, List.getElem_toArray, List.getElem_cons_succ, List.getElem_cons_zero, List.setIfInBounds_toArray, List.set_cons_zero, List.set_cons_succ]
  refine p_one 24 (by kernel_rfl) (fun W hW _ => ?_)
  refine op_call (o := _) rfl (by simp [Region.wanted, yielded]) 10 _ _ rfl #[.int .i64 h, .slice A1 n1 c1, .string (str lab), .slice A3 n3 c3] (by simp [Act.eval]) (enter_rderive _) ?_
  refine (rderive_any h A1 n1 c1 sec lab A3 n3 c3 ctx W (hW.reads0 r1) (by omega) (hW.reads0 r3)).mono ?_
  rintro e W' ⟨v, rfl, own, hE⟩
  rw [HDD.out] at own
  obtain ⟨Ae, ce, e1⟩ := own.slice
  obtain ⟨ne, Hne⟩ : ∃ x, Hd (List.length DD = x) := ⟨_, ⟨rfl⟩⟩
  rw [Hne.out] at e1
  subst e1
  have hrd : ReadsB W' W'.heap.size Ae ne DD := ⟨Hne.out, own.reads_any.2.is⟩
  have hN : Held w3 (⟨Ae, ne, ce, DD⟩ :: [⟨Ad, nd, cd, DD⟩]) [] W' := (hW.below hE).cons hrd
  refine ⟨_, rfl, Next.mk (Held w3 (⟨Ae, ne, ce, DD⟩ :: [⟨Ad, nd, cd, DD⟩]) []) (fun _ => True) (fun _ h => h.tail) hN trivial ?_⟩
  clear hN hrd own hE hW
  simp only [Act.put, List.getElem_toArray, List.getElem_cons_succ, List.getElem_cons_zero, List.setIfInBounds_toArray, List.set_cons_zero, List.set_cons_succ]
  refine p_take 25 (o := _) rfl (by kernel_rfl) (by kernel_rfl) (by kernel_rfl) (by simp [Region.wanted, yielded]) (.string (str DD)) (fun _ _ _ h => h) (fun W hW => run_toStr (by rfl) Tryd.underlying23 Tryd.underlying5 Tryd.underlying9 _ Ae ne ce DD (by simp [Act.eval]) (hW.reads ⟨Ae, ne, ce, DD⟩ (by simp))) ?_
  simp only [Act.put, List.getElem_toArray, List.getElem_cons_succ, List.getElem_cons_zero, List.setIfInBounds_toArray, List.set_cons_zero, List.set_cons_succ]
  refine p_take 26 (o := _) rfl (by kernel_rfl) (by kernel_rfl) (by kernel_rfl) (by simp [Region.wanted, yielded]) (.bool true) (fun _ _ _ h => h) (fun W hW => run_eqT (by rfl) DD DD (rfl) (by simp [Act.eval]) (by simp [Act.eval]) W) ?_
  simp only [Act.put, List.getElem_toArray, List.getElem_cons_succ, List.getElem_cons_zero, List.setIfInBounds_toArray, List.set_cons_zero, List.set_cons_succ]
  refine p_take 27 (o := _) rfl (by kernel_rfl) (by kernel_rfl) (by kernel_rfl) (wanted_plain rfl) (.bool true) (fun _ _ _ h => h) (fun W hW => run_pick (b := true) (by rfl) (by simp [Act.eval]) (by simp [Act.eval]) W) ?_
  simp only [Act.put, List.getElem_toArray, List.getElem_cons_succ, List.getElem_cons_zero, List.setIfInBounds_toArray, List.set_cons_zero, List.set_cons_succ]
  refine p_take 28 (o := _) rfl (by kernel_rfl) (by kernel_rfl) (by kernel_rfl) (wanted_plain rfl) (.bool true) (fun _ _ _ h => h) (fun W hW => run_assign (by rfl) (by simp [Act.eval]) W) ?_
  simp only [Act.put, List.getElem_toArray, List.getElem_cons_succ, List.getElem_cons_zero, List.setIfInBounds_toArray, List.set_cons_zero, List.set_cons_succ]
  refine p_done (by kernel_rfl) (fun W hW => ?_) _
  go_wp2
  go_ret
  exact ⟨rfl, hw3.trans (hW.old.mono hw3.size)⟩
theorem labels_all (h : Int) (A1 : Option Addr) (n1 c1 : Nat) (sec : List UInt8) (s : ByteArray) (A3 : Option Addr) (n3 c3 : Nat) (ctx : List UInt8) (n : Int) (w : World) (hr1 : ReadsB w w.heap.size A1 n1 sec) (hc1 : n1 ≤ c1) (hn1 : n1 ≤ 140737488351232) (hr3 : ReadsB w w.heap.size A3 n3 ctx) (hc3 : n3 ≤ c3) (hn3 : n3 ≤ 140737488351232) (htb0 : Tabs w) :
    Calls Tryd.prog 3 #[.int .i64 h, .slice A1 n1 c1, .string s, .slice A3 n3 c3, .int .i64 n] w fun e w' => e = .returned (.bool true) ∧ Below w.heap.size w w' := by
  have es : s = str s.data.toList := by apply ByteArray.ext; simp [str]
  rw [es]
  exact labels_law h A1 n1 c1 sec _ A3 n3 c3 ctx n w hr1 hn1 hr3 htb0
end Go.Proofs.YtkacibgbpeeflaaDoor
