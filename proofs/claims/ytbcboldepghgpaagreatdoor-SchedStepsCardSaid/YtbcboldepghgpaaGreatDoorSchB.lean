/-
  The program's steps: Derive, step, Early, Handshake, Master, Update, Finished.
-/
import Derived.Test.YtbcboldepghgpaaGreatDoorSchA
import Derived.Test.YtbcboldepghgpaaGreatDoorZeros
set_option linter.unusedVariables false
set_option linter.unusedSimpArgs false
set_option maxRecDepth 100000
namespace Go.Proofs.YtbcboldepghgpaaGreatDoor
open Go.RowKit
section
variable {P : Program} {ops : Array Oper} {Q : Exit → Act → World → Prop} {md : Region.Mode} {S : World → Prop} {fuel i : Nat} {listed : Array Bool} {a : Act} {w : World} {o : Oper} {K' : Act → World → Prop}
theorem run_enter {o : Oper} (f : FuncId) (xs : Array Operand) (ats : Array TypeId) (ho : o.op = .call { callee := .value (.func f), args := xs, argTypes := ats }) (args : Array Value) (hargs : xs.map a.eval = args)
    (hfn : ∀ w, (callFunc f args).run P w = .ok (.enter f args) w) : (execOp a.eval o).run P w = .ok (.enter f args) w := by
  obtain ⟨dst, op, type, pos, after, guard⟩ := o
  subst ho
  show (execOp a.eval _).run P w = _
  rw [execOp_call_go]
  have e : #[] ++ xs.map a.eval ++ #[] = args := by rw [hargs]; simp
  rw [e]; exact hfn w
/-- One of several operations that may come up: a call. -/
theorem step_callH (hw : Region.wanted o (yielded ops a.tmps) = true) (f : FuncId) (xs : Array Operand) (ats : Array TypeId) (ho : o.op = .call { callee := .value (.func f), args := xs, argTypes := ats }) (args : Array Value) (hargs : xs.map a.eval = args)
    (hfn : ∀ w, (callFunc f args).run P w = .ok (.enter f args) w) (hK : Shut (∀ a w, S w → (S w → wpAnyH P md ops Q S fuel (listed.setIfInBounds i true) a w) → K' a w))
    (h : Calls P f args w fun e w' => ∃ v, e = .returned v ∧ S w' ∧ (S w' → wpAnyH P md ops Q S fuel (listed.setIfInBounds i true) (a.put o.dst v) w')) : if Region.wanted o (yielded ops a.tmps) = true then Oper.wp P o a w K' Q else K' (a.put o.dst undef) w := by
  rw [if_pos hw]
  unfold Oper.wp
  rw [run_enter f xs ats ho args hargs hfn]
  refine h.mono ?_
  rintro e w' ⟨v, rfl, hS, hW⟩
  exact hK.out _ _ hS hW
/-- .. one that gives a value, and a world. -/
theorem step_doH (hw : Region.wanted o (yielded ops a.tmps) = true) (v : Value) (w2 : World) (hrun : (execOp a.eval o).run P w = .ok (.value v) w2) (hS : S w2) (hK : Shut (∀ a w, S w → (S w → wpAnyH P md ops Q S fuel (listed.setIfInBounds i true) a w) → K' a w))
    (h : S w2 → wpAnyH P md ops Q S fuel (listed.setIfInBounds i true) (a.put o.dst v) w2) : if Region.wanted o (yielded ops a.tmps) = true then Oper.wp P o a w K' Q else K' (a.put o.dst undef) w := by
  rw [if_pos hw]
  unfold Oper.wp
  rw [hrun]
  exact hK.out _ _ hS h
/-- .. one that gives none. -/
theorem step_skipH (hw : Region.wanted o (yielded ops a.tmps) = true) (w2 : World) (hrun : (execOp a.eval o).run P w = .ok .skip w2) (hS : S w2) (hK : Shut (∀ a w, S w → (S w → wpAnyH P md ops Q S fuel (listed.setIfInBounds i true) a w) → K' a w))
    (h : S w2 → wpAnyH P md ops Q S fuel (listed.setIfInBounds i true) (a.put o.dst undef) w2) : if Region.wanted o (yielded ops a.tmps) = true then Oper.wp P o a w K' Q else K' (a.put o.dst undef) w := by
  rw [if_pos hw]
  unfold Oper.wp
  rw [hrun]
  exact hK.out _ _ hS h
end
namespace Sched
def lDerived : List UInt8 := [100, 101, 114, 105, 118, 101, 100]
def lUpdate : List UInt8 := [116, 114, 97, 102, 102, 105, 99, 32, 117, 112, 100]
def lFinished : List UInt8 := [102, 105, 110, 105, 115, 104, 101, 100]
/-- A label's secret, as long as a sum. -/
def derive (h : Int) (key lab ctx : List UInt8) : List UInt8 := expand h key lab ctx (Sha.size h : Int)
def saltOf (h : Int) (fr : List UInt8) : List UInt8 := derive h fr lDerived (Sha.sum h [])
def zeros (h : Int) : List UInt8 := List.replicate (Sha.size h) 0
def early (h : Int) (psk : List UInt8) : List UInt8 := Mac.code h (zeros h) (if psk.length = 0 then zeros h else psk)
theorem derive_len (h : Int) (key lab ctx : List UInt8) : (derive h key lab ctx).length ≤ 64 := by
  unfold derive expand
  split
  · simp
  · rw [Mac.expand_len _ _ _ _ (by omega)]
    exact Mac.size_le h
theorem zeros_len (h : Int) : (zeros h).length = Sha.size h := List.length_replicate
end Sched
theorem derive_any (h : Int) (A : Option Addr) (m c : Nat) (key : List UInt8) (lab : List UInt8) (D : Option Addr) (k d : Nat) (ctx : List UInt8) (w : World) (hr : ReadsB w w.heap.size A m key) (hm : m ≤ 140737488355000) (hi : ReadsB w w.heap.size D k ctx) (htb : Tabs w) :
    Calls Tryz.prog 35 #[.int .i64 h, .slice A m c, .string (str lab), .slice D k d] w fun e w' => ∃ v, e = .returned v ∧ OwnB w' w.heap.size v (Sched.derive h key lab ctx) ∧ Below w.heap.size w w' := by
  obtain ⟨S, HS⟩ : ∃ x, Hd (Sha.size h = x) := ⟨_, ⟨rfl⟩⟩
  have HX := hd (show Sched.derive h key lab ctx = Sched.expand h key lab ctx (S : Int) by rw [Sched.derive, HS.out])
  go_enter Tryz.func35, Tryz.ntmps35
  go_wp2_with (first | (go_at_call 30; refine (sexpand_any h A m c key lab D k d ctx (S : Int) w hr hm hi htb).mono ?_; rintro e w2 ⟨v2, rfl, own2, hB2⟩) | (go_at_call 22; refine (size_any h w).mono ?_; rintro e w0 ⟨rfl, rfl⟩; rw [HS.out]))
  go_ret
  exact ⟨_, rfl, by rw [HX.out]; exact own2, hB2⟩
theorem enter_of (args : Array Value) (w : World) : (callFunc 38 args).run Tryz.prog w = .ok (.enter 38 args) w := by kernel_rfl
theorem enter_derive (args : Array Value) (w : World) : (callFunc 35 args).run Tryz.prog w = .ok (.enter 35 args) w := by kernel_rfl
theorem run_load_h (ad : Addr) (v : Value) (w : World) (h : w.cell? ad = some v) : (loadVar 22 ad).run Tryz.prog w = .ok v w := by
  simp [go_sem, loadVar, h]
theorem zero_slice8 : (Tryz.prog.info? 25).bind (·.zero) = some (.slice none 0 0) := by kernel_rfl

set_option maxHeartbeats 4000000 in
/-- step: a closure that holds a hash and a salt. -/
theorem step_any (h : Int) (A : Option Addr) (m c : Nat) (fr : List UInt8) (w : World) (hr : ReadsB w w.heap.size A m fr) (hm : m ≤ 140737488355000) (htb : Tabs w) :
    Calls Tryz.prog 26 #[.int .i64 h, .slice A m c] w fun e w' => ∃ b0 bs S sn sc, e = .returned (.func (.func 41) #[] #[.pointer (some ⟨b0, 0, none⟩), .pointer (some ⟨bs, 0, none⟩)]) ∧ Blk w' b0 22 #[.int .i64 h] ∧ Blk w' bs 25 #[.slice S sn sc] ∧ ReadsB w' w'.heap.size S sn (Sched.saltOf h fr) ∧ Below w.heap.size w w' := by
  obtain ⟨salt, HX⟩ : ∃ x, Hd (Sched.saltOf h fr = x) := ⟨_, ⟨rfl⟩⟩
  rw [HX.out]
  obtain ⟨S9, H9⟩ : ∃ x, Hd (Sha.sum h (joined []) = x) := ⟨_, ⟨rfl⟩⟩
  have HX := hd (show Sched.derive h fr Sched.lDerived S9 = salt by rw [← HX.out, ← H9.out]; rfl)
  obtain ⟨n9, Hn9⟩ : ∃ x, Hd (Sha.size h = x) := ⟨_, ⟨rfl⟩⟩
  have H9l := hd (show S9.length = n9 by rw [← H9.out, Sha.sum_len, Hn9.out])
  have hmf : ∀ (fn : Fn) (first cap : Array Value) (w : World), (Instr.makeFunc fn first cap).run Tryz.prog w = .ok (.func fn first cap) w := fun _ _ _ _ => rfl
  obtain ⟨w1, Hw1⟩ : ∃ x, Hd (w.alloc (.cells #[.int .i64 h] 22) = x) := ⟨_, ⟨rfl⟩⟩
  have hB1 : Below w.heap.size w w1 := by rw [← Hw1.out]; exact (Below.refl _ _).alloc (Nat.le_refl _) _
  have k0 : Blk w1 w.heap.size 22 #[.int .i64 h] := by rw [← Hw1.out]; exact Blk.nu rfl
  have hr1 : ReadsB w1 w1.heap.size A m fr := ⟨hr.len, (hr.is.below hB1).more hB1.size⟩
  have htb1 := htb.below hB1
  have c0 : ∀ W, InA w1 W → W.cell? ⟨w.heap.size, 0, none⟩ = some (.int .i64 h) := fun W hW => (Below.cell hW k0.lt).trans (k0.cell 0)
  go_enter Tryz.func26, Tryz.ntmps26
  go_wp2
  rw [Hw1.out]
  apply region_partF (R := fun (F : Nat → Value → Option Addr → Nat → Act) a' w' => ∃ bs v A9 c9, a' = F bs v A9 c9 ∧ Blk w' bs 25 #[v] ∧ (∃ S sn sc, v = .slice S sn sc ∧ ReadsB w' w'.heap.size S sn salt) ∧ Below w1.heap.size w1 w')
  · obtain ⟨u0, Hu0⟩ : ∃ x, Hd (w1.drew = x) := ⟨_, ⟨rfl⟩⟩
    have hI0 : InA w1 u0 := by rw [← Hu0.out]; exact (Below.refl _ _).drew
    refine wp_region_held_drew (S := InA w1) (by kernel_rfl) (by rw [Hu0.out]; exact hI0) ?_
    intro _
    rw [Hu0.out]
    refine held_take 0 (o := _) rfl (by kernel_rfl) (by kernel_rfl) (by kernel_rfl) rfl (.int .i64 h) (fun _ _ _ h => h) (fun W hW => run_execOp_load (by rfl) (by simp [Act.eval]) (run_load_h ⟨w.heap.size, 0, none⟩ _ W (c0 W hW))) (by assumption) ?_
    simp only [Act.put, List.getElem_toArray, List.getElem_cons_succ, List.getElem_cons_zero, List.setIfInBounds_toArray, List.set_cons_zero, List.set_cons_succ]
    refine held_take 1 (o := _) rfl (by kernel_rfl) (by kernel_rfl) (by kernel_rfl) rfl (.slice A m c) (fun _ _ _ h => h) (fun W hW => run_move (by rfl) (by simp [Act.eval]) W) (by assumption) ?_
    simp only [Act.put, List.getElem_toArray, List.getElem_cons_succ, List.getElem_cons_zero, List.setIfInBounds_toArray, List.set_cons_zero, List.set_cons_succ]
    refine held_take 2 (o := _) rfl (by kernel_rfl) (by kernel_rfl) (by kernel_rfl) rfl (.int .i64 h) (fun _ _ _ h => h) (fun W hW => run_execOp_load (by rfl) (by simp [Act.eval]) (run_load_h ⟨w.heap.size, 0, none⟩ _ W (c0 W hW))) (by assumption) ?_
    simp only [Act.put, List.getElem_toArray, List.getElem_cons_succ, List.getElem_cons_zero, List.setIfInBounds_toArray, List.set_cons_zero, List.set_cons_succ]
    refine wpAnyH_ready (rs := [3, 5]) (by kernel_rfl) (by simp) (AllReadyH.cons rfl (fun K hK => ?_) (AllReadyH.cons rfl (fun K hK => ?_) AllReadyH.nil))
    · refine step_callH (by rfl) 38 _ _ rfl #[.int .i64 h, .slice none 0 0] (by simp [Act.eval]) (enter_of _) hK ?_
      refine (of_any h none 0 0 [] u0 (Parts.none _ _) (by omega) (htb1.below hI0)).mono ?_
      rintro e u1 ⟨v9, rfl, own9, hE1⟩
      have own9 : OwnB u1 u0.heap.size v9 S9 := by rw [← H9.out]; exact own9
      obtain ⟨A9, c9, e9⟩ := own9.slice
      rw [H9l.out] at e9
      have r9_1 : ReadsB u1 u1.heap.size A9 n9 S9 := by rw [e9] at own9; exact own9.reads_any.2
      clear own9
      subst e9
      have hI1 : InA w1 u1 := Below.trans hI0 (hE1.mono (Below.size hI0))
      refine ⟨_, rfl, hI1, ?_⟩
      intro _
      simp only [Act.put, List.getElem_toArray, List.getElem_cons_succ, List.getElem_cons_zero, List.setIfInBounds_toArray, List.set_cons_zero, List.set_cons_succ]
      refine wpAnyH_ready (rs := [4, 5]) (by kernel_rfl) (by simp) (AllReadyH.cons rfl (fun K hK => ?_) (AllReadyH.cons rfl (fun K hK => ?_) AllReadyH.nil))
      · refine step_callH (by rfl) 35 _ _ rfl #[.int .i64 h, .slice A m c, .string (str Sched.lDerived), .slice A9 n9 c9] (by simp [Act.eval, str, Sched.lDerived]) (enter_derive _) hK ?_
        refine (derive_any h A m c fr Sched.lDerived A9 n9 c9 S9 u1 ⟨hr1.len, (hr1.is.below hI1).more (Below.size hI1)⟩ hm r9_1 (htb1.below hI1)).mono ?_
        rintro e u2 ⟨v10, rfl, o10_2, hE2⟩
        rw [HX.out] at o10_2
        have hI2 : InA w1 u2 := Below.trans hI1 (hE2.mono (Below.size hI1))
        refine ⟨_, rfl, hI2, ?_⟩
        intro _
        simp only [Act.put, List.getElem_toArray, List.getElem_cons_succ, List.getElem_cons_zero, List.setIfInBounds_toArray, List.set_cons_zero, List.set_cons_succ]
        refine wpAnyH_ready (rs := [5]) (by kernel_rfl) (by simp) (AllReadyH.cons rfl (fun K hK => ?_) AllReadyH.nil)
        · obtain ⟨u3, Hu3⟩ : ∃ x, Hd (u2.alloc (.cells #[.slice none 0 0] 25) = x) := ⟨_, ⟨rfl⟩⟩
          obtain ⟨bs, Hbs⟩ : ∃ x, Hd (u2.heap.size = x) := ⟨_, ⟨rfl⟩⟩
          have hE3 : Below u2.heap.size u2 u3 := by rw [← Hu3.out]; exact (Below.refl _ _).alloc (Nat.le_refl _) _
          have hI3 : InA w1 u3 := Below.trans hI2 (hE3.mono (Below.size hI2))
          have hbs1 : w1.heap.size ≤ bs := by have h1 := Below.size hI2; have h2 := Hbs.out; omega
          have k5_3 : Blk u3 bs 25 #[.slice none 0 0] := by rw [← Hu3.out, ← Hbs.out]; exact Blk.nu rfl
          have o10_3 := o10_2.later hE3
          have hv10 : Value.ownBlock v10 ≠ some bs := fun e => by have h1 := (o10_2.own.lt bs e).2; have h2 := Hbs.out; omega
          refine step_doH (by rfl) (.pointer (some ⟨bs, 0, none⟩)) u3 (by rw [← Hu3.out, ← Hbs.out]; go_simp) hI3 hK ?_
          intro _
          simp only [Act.put, List.getElem_toArray, List.getElem_cons_succ, List.getElem_cons_zero, List.setIfInBounds_toArray, List.set_cons_zero, List.set_cons_succ]
          refine wpAnyH_ready (rs := [6]) (by kernel_rfl) (by simp) (AllReadyH.cons rfl (fun K hK => ?_) AllReadyH.nil)
          · obtain ⟨u4, Hu4⟩ : ∃ x, Hd (u3.setCell ⟨bs, 0, none⟩ v10 = x) := ⟨_, ⟨rfl⟩⟩
            have hI4 : InA w1 u4 := by rw [← Hu4.out]; exact Below.setCell (p := ⟨bs, 0, none⟩) hI3 hbs1 _
            have k6 : Blk u4 bs 25 #[v10] := by rw [← Hu4.out]; exact k5_3.set_ 0 v10
            have o11 : OwnB u4 u1.heap.size v10 salt := by rw [← Hu4.out]; exact o10_3.far (p := ⟨bs, 0, none⟩) hv10 _
            have cz : u3.cell? ⟨bs, 0, none⟩ = some (.slice none 0 0) := k5_3.cell 0
            have fz := k5_3.frozen 0
            obtain ⟨A10, c10, e10⟩ := o11.slice
            refine step_skipH (by rfl) u4 (by rw [← Hu4.out, e10]; go_simp) hI4 hK ?_
            intro _
            simp only [Act.put, List.getElem_toArray, List.getElem_cons_succ, List.getElem_cons_zero, List.setIfInBounds_toArray, List.set_cons_zero, List.set_cons_succ]
            refine wpAnyH_done (by kernel_rfl) ?_ _
            have hrd : ReadsB u4 u4.heap.size A10 salt.length salt := by rw [e10] at o11; exact o11.reads_any.2
            exact ⟨bs, v10, A9, c9, rfl, k6, ⟨A10, salt.length, c10, e10, hrd⟩, hI4⟩
      · obtain ⟨u2, Hu2⟩ : ∃ x, Hd (u1.alloc (.cells #[.slice none 0 0] 25) = x) := ⟨_, ⟨rfl⟩⟩
        obtain ⟨bs, Hbs⟩ : ∃ x, Hd (u1.heap.size = x) := ⟨_, ⟨rfl⟩⟩
        have hE2 : Below u1.heap.size u1 u2 := by rw [← Hu2.out]; exact (Below.refl _ _).alloc (Nat.le_refl _) _
        have hI2 : InA w1 u2 := Below.trans hI1 (hE2.mono (Below.size hI1))
        have hbs1 : w1.heap.size ≤ bs := by have h1 := Below.size hI1; have h2 := Hbs.out; omega
        have k5_2 : Blk u2 bs 25 #[.slice none 0 0] := by rw [← Hu2.out, ← Hbs.out]; exact Blk.nu rfl
        have r9_2 : ReadsB u2 u2.heap.size A9 n9 S9 := ⟨r9_1.len, (r9_1.is.below hE2).more hE2.size⟩
        refine step_doH (by rfl) (.pointer (some ⟨bs, 0, none⟩)) u2 (by rw [← Hu2.out, ← Hbs.out]; go_simp) hI2 hK ?_
        intro _
        simp only [Act.put, List.getElem_toArray, List.getElem_cons_succ, List.getElem_cons_zero, List.setIfInBounds_toArray, List.set_cons_zero, List.set_cons_succ]
        refine wpAnyH_ready (rs := [4]) (by kernel_rfl) (by simp) (AllReadyH.cons rfl (fun K hK => ?_) AllReadyH.nil)
        · refine step_callH (by rfl) 35 _ _ rfl #[.int .i64 h, .slice A m c, .string (str Sched.lDerived), .slice A9 n9 c9] (by simp [Act.eval, str, Sched.lDerived]) (enter_derive _) hK ?_
          refine (derive_any h A m c fr Sched.lDerived A9 n9 c9 S9 u2 ⟨hr1.len, (hr1.is.below hI2).more (Below.size hI2)⟩ hm r9_2 (htb1.below hI2)).mono ?_
          rintro e u3 ⟨v10, rfl, o10_3, hE3⟩
          rw [HX.out] at o10_3
          have hI3 : InA w1 u3 := Below.trans hI2 (hE3.mono (Below.size hI2))
          have k5_3 := k5_2.below hE3 k5_2.lt
          have hv10 : Value.ownBlock v10 ≠ some bs := fun e => by have h1 := (o10_3.own.lt bs e).1; have h2 := k5_2.lt; omega
          refine ⟨_, rfl, hI3, ?_⟩
          intro _
          simp only [Act.put, List.getElem_toArray, List.getElem_cons_succ, List.getElem_cons_zero, List.setIfInBounds_toArray, List.set_cons_zero, List.set_cons_succ]
          refine wpAnyH_ready (rs := [6]) (by kernel_rfl) (by simp) (AllReadyH.cons rfl (fun K hK => ?_) AllReadyH.nil)
          · obtain ⟨u4, Hu4⟩ : ∃ x, Hd (u3.setCell ⟨bs, 0, none⟩ v10 = x) := ⟨_, ⟨rfl⟩⟩
            have hI4 : InA w1 u4 := by rw [← Hu4.out]; exact Below.setCell (p := ⟨bs, 0, none⟩) hI3 hbs1 _
            have k6 : Blk u4 bs 25 #[v10] := by rw [← Hu4.out]; exact k5_3.set_ 0 v10
            have o11 : OwnB u4 u2.heap.size v10 salt := by rw [← Hu4.out]; exact o10_3.far (p := ⟨bs, 0, none⟩) hv10 _
            have cz : u3.cell? ⟨bs, 0, none⟩ = some (.slice none 0 0) := k5_3.cell 0
            have fz := k5_3.frozen 0
            obtain ⟨A10, c10, e10⟩ := o11.slice
            refine step_skipH (by rfl) u4 (by rw [← Hu4.out, e10]; go_simp) hI4 hK ?_
            intro _
            simp only [Act.put, List.getElem_toArray, List.getElem_cons_succ, List.getElem_cons_zero, List.setIfInBounds_toArray, List.set_cons_zero, List.set_cons_succ]
            refine wpAnyH_done (by kernel_rfl) ?_ _
            have hrd : ReadsB u4 u4.heap.size A10 salt.length salt := by rw [e10] at o11; exact o11.reads_any.2
            exact ⟨bs, v10, A9, c9, rfl, k6, ⟨A10, salt.length, c10, e10, hrd⟩, hI4⟩
    · obtain ⟨u1, Hu1⟩ : ∃ x, Hd (u0.alloc (.cells #[.slice none 0 0] 25) = x) := ⟨_, ⟨rfl⟩⟩
      obtain ⟨bs, Hbs⟩ : ∃ x, Hd (u0.heap.size = x) := ⟨_, ⟨rfl⟩⟩
      have hE1 : Below u0.heap.size u0 u1 := by rw [← Hu1.out]; exact (Below.refl _ _).alloc (Nat.le_refl _) _
      have hI1 : InA w1 u1 := Below.trans hI0 (hE1.mono (Below.size hI0))
      have hbs1 : w1.heap.size ≤ bs := by have h1 := Below.size hI0; have h2 := Hbs.out; omega
      have k5_1 : Blk u1 bs 25 #[.slice none 0 0] := by rw [← Hu1.out, ← Hbs.out]; exact Blk.nu rfl
      refine step_doH (by rfl) (.pointer (some ⟨bs, 0, none⟩)) u1 (by rw [← Hu1.out, ← Hbs.out]; go_simp) hI1 hK ?_
      intro _
      simp only [Act.put, List.getElem_toArray, List.getElem_cons_succ, List.getElem_cons_zero, List.setIfInBounds_toArray, List.set_cons_zero, List.set_cons_succ]
      refine wpAnyH_ready (rs := [3]) (by kernel_rfl) (by simp) (AllReadyH.cons rfl (fun K hK => ?_) AllReadyH.nil)
      · refine step_callH (by rfl) 38 _ _ rfl #[.int .i64 h, .slice none 0 0] (by simp [Act.eval]) (enter_of _) hK ?_
        refine (of_any h none 0 0 [] u1 (Parts.none _ _) (by omega) (htb1.below hI1)).mono ?_
        rintro e u2 ⟨v9, rfl, own9, hE2⟩
        have own9 : OwnB u2 u1.heap.size v9 S9 := by rw [← H9.out]; exact own9
        obtain ⟨A9, c9, e9⟩ := own9.slice
        rw [H9l.out] at e9
        have r9_2 : ReadsB u2 u2.heap.size A9 n9 S9 := by rw [e9] at own9; exact own9.reads_any.2
        clear own9
        subst e9
        have hI2 : InA w1 u2 := Below.trans hI1 (hE2.mono (Below.size hI1))
        have k5_2 := k5_1.below hE2 k5_1.lt
        refine ⟨_, rfl, hI2, ?_⟩
        intro _
        simp only [Act.put, List.getElem_toArray, List.getElem_cons_succ, List.getElem_cons_zero, List.setIfInBounds_toArray, List.set_cons_zero, List.set_cons_succ]
        refine wpAnyH_ready (rs := [4]) (by kernel_rfl) (by simp) (AllReadyH.cons rfl (fun K hK => ?_) AllReadyH.nil)
        · refine step_callH (by rfl) 35 _ _ rfl #[.int .i64 h, .slice A m c, .string (str Sched.lDerived), .slice A9 n9 c9] (by simp [Act.eval, str, Sched.lDerived]) (enter_derive _) hK ?_
          refine (derive_any h A m c fr Sched.lDerived A9 n9 c9 S9 u2 ⟨hr1.len, (hr1.is.below hI2).more (Below.size hI2)⟩ hm r9_2 (htb1.below hI2)).mono ?_
          rintro e u3 ⟨v10, rfl, o10_3, hE3⟩
          rw [HX.out] at o10_3
          have hI3 : InA w1 u3 := Below.trans hI2 (hE3.mono (Below.size hI2))
          have k5_3 := k5_2.below hE3 k5_2.lt
          have hv10 : Value.ownBlock v10 ≠ some bs := fun e => by have h1 := (o10_3.own.lt bs e).1; have h2 := k5_2.lt; omega
          refine ⟨_, rfl, hI3, ?_⟩
          intro _
          simp only [Act.put, List.getElem_toArray, List.getElem_cons_succ, List.getElem_cons_zero, List.setIfInBounds_toArray, List.set_cons_zero, List.set_cons_succ]
          refine wpAnyH_ready (rs := [6]) (by kernel_rfl) (by simp) (AllReadyH.cons rfl (fun K hK => ?_) AllReadyH.nil)
          · obtain ⟨u4, Hu4⟩ : ∃ x, Hd (u3.setCell ⟨bs, 0, none⟩ v10 = x) := ⟨_, ⟨rfl⟩⟩
            have hI4 : InA w1 u4 := by rw [← Hu4.out]; exact Below.setCell (p := ⟨bs, 0, none⟩) hI3 hbs1 _
            have k6 : Blk u4 bs 25 #[v10] := by rw [← Hu4.out]; exact k5_3.set_ 0 v10
            have o11 : OwnB u4 u2.heap.size v10 salt := by rw [← Hu4.out]; exact o10_3.far (p := ⟨bs, 0, none⟩) hv10 _
            have cz : u3.cell? ⟨bs, 0, none⟩ = some (.slice none 0 0) := k5_3.cell 0
            have fz := k5_3.frozen 0
            obtain ⟨A10, c10, e10⟩ := o11.slice
            refine step_skipH (by rfl) u4 (by rw [← Hu4.out, e10]; go_simp) hI4 hK ?_
            intro _
            simp only [Act.put, List.getElem_toArray, List.getElem_cons_succ, List.getElem_cons_zero, List.setIfInBounds_toArray, List.set_cons_zero, List.set_cons_succ]
            refine wpAnyH_done (by kernel_rfl) ?_ _
            have hrd : ReadsB u4 u4.heap.size A10 salt.length salt := by rw [e10] at o11; exact o11.reads_any.2
            exact ⟨bs, v10, A9, c9, rfl, k6, ⟨A10, salt.length, c10, e10, hrd⟩, hI4⟩
  · rintro a2 w2 ⟨bs, v, A9, c9, rfl, k6, ⟨S, sn, sc, rfl, hrd⟩, hB2⟩
    go_wp2
    go_ret
    exact ⟨_, bs, S, sn, sc, rfl, k0.below hB2 k0.lt, k6, hrd, hB1.trans (hB2.mono hB1.size)⟩

/-- .. and what it does. -/
theorem step1_any (h : Int) (b0 bs : Nat) (S : Option Addr) (sn sc : Nat) (salt : List UInt8) (D : Option Addr) (k d : Nat) (more : List UInt8) (w : World) (k0 : Blk w b0 22 #[.int .i64 h]) (k6 : Blk w bs 25 #[.slice S sn sc]) (hr : ReadsB w w.heap.size S sn salt) (hsn : sn ≤ 140737488355000) (hi : ReadsB w w.heap.size D k more) (hk : k ≤ 140737488355000) (htb : Tabs w) :
    Calls Tryz.prog 41 #[.slice D k d, .pointer (some ⟨b0, 0, none⟩), .pointer (some ⟨bs, 0, none⟩)] w fun e w' => ∃ v, e = .returned v ∧ OwnB w' w.heap.size v (Mac.code h salt more) ∧ Below w.heap.size w w' := by
  have c0 : w.cell? ⟨b0, 0, none⟩ = some (.int .i64 h) := k0.cell 0
  have c6 : w.cell? ⟨bs, 0, none⟩ = some (.slice S sn sc) := k6.cell 0
  go_enter Tryz.func41, Tryz.ntmps41
  go_wp2_with (first | (go_at_call 23; refine (extract_any h S sn sc salt D k d more w hr hsn hi hk htb).mono ?_; rintro e w2 ⟨v2, rfl, own2, hB2⟩))
  go_ret
  exact ⟨_, rfl, own2, hB2⟩
theorem handshake_any (h : Int) (A : Option Addr) (m c : Nat) (fr : List UInt8) (D : Option Addr) (k d : Nat) (more : List UInt8) (w : World) (hr : ReadsB w w.heap.size A m fr) (hm : m ≤ 140737488355000) (hi : ReadsB w w.heap.size D k more) (hk : k ≤ 140737488355000) (htb : Tabs w) :
    Calls Tryz.prog 7 #[.int .i64 h, .slice A m c, .slice D k d] w fun e w' => ∃ v, e = .returned v ∧ OwnB w' w.heap.size v (Mac.code h (Sched.saltOf h fr) more) ∧ Below w.heap.size w w' := by
  have Hsl := hd (Sched.derive_len h fr Sched.lDerived (Sha.sum h []))
  go_enter Tryz.func7, Tryz.ntmps7
  go_wp2_with (first | (go_at_call 41; refine (step1_any h b0 bs S sn sc (Sched.saltOf h fr) D k d more w1 k0 k6 hrs (by have h1 := hrs.len; have h2 := Hsl.out; unfold Sched.saltOf at h1; omega) ⟨hi.len, (hi.is.below hB1).more hB1.size⟩ hk (htb.below hB1)).mono ?_; rintro e w2 ⟨v2, rfl, own2, hB2⟩) | (go_at_call 26; refine (step_any h A m c fr w hr hm htb).mono ?_; rintro e w1 ⟨b0, bs, S, sn, sc, rfl, k0, k6, hrs, hB1⟩))
  go_ret
  exact ⟨_, rfl, own2.low hB1.size, hB1.trans (hB2.mono hB1.size)⟩
theorem master_any (h : Int) (A : Option Addr) (m c : Nat) (fr : List UInt8) (w : World) (hr : ReadsB w w.heap.size A m fr) (hm : m ≤ 140737488355000) (htb : Tabs w) :
    Calls Tryz.prog 9 #[.int .i64 h, .slice A m c] w fun e w' => ∃ v, e = .returned v ∧ OwnB w' w.heap.size v (Mac.code h (Sched.saltOf h fr) (Sched.zeros h)) ∧ Below w.heap.size w w' := by
  have Hsl := hd (Sched.derive_len h fr Sched.lDerived (Sha.sum h []))
  have hsl := Mac.size_le h
  obtain ⟨n, HS⟩ : ∃ x, Hd (Sha.size h = x) := ⟨_, ⟨rfl⟩⟩
  rw [HS.out] at hsl
  have HZ := hd (show Sched.zeros h = List.replicate n 0 by rw [Sched.zeros, HS.out])
  go_enter Tryz.func9, Tryz.ntmps9
  go_wp2_with (first | (go_at_call 41; refine (step1_any h b0 bs S sn sc (Sched.saltOf h fr) (some ⟨w1.heap.size, 0, none⟩) n n (List.replicate n 0) w2 (k0.below hB2 k0.lt) (k6.below hB2 k6.lt) ⟨hrs.len, (hrs.is.below hB2).more hB2.size⟩ (by have h1 := hrs.len; have h2 := Hsl.out; unfold Sched.saltOf at h1; omega) ⟨List.length_replicate, own2.reads_any.2.is⟩ (by omega) (htb.below (hB1.trans (hB2.mono hB1.size)))).mono ?_; rintro e w3 ⟨v3, rfl, own3, hB3⟩) | (go_at_call 22; refine (size_any h w1).mono ?_; rintro e wz ⟨rfl, rfl⟩; rw [HS.out]) | (go_at_call 26; refine (step_any h A m c fr w hr hm htb).mono ?_; rintro e w1 ⟨b0, bs, S, sn, sc, rfl, k0, k6, hrs, hB1⟩; obtain ⟨w2, hmk, own2, gr2⟩ := run_makeI w1 w1.heap.size n n (Nat.le_refl _) (by omega) (Nat.le_refl _); have hB2 : Below w1.heap.size w1 w2 := below_new (Below.refl _ _) gr2 (Nat.le_refl _)))
  go_ret
  have hB12 := hB1.trans (hB2.mono hB1.size)
  exact ⟨_, rfl, by rw [HZ.out]; exact own3.low hB12.size, hB12.trans (hB3.mono hB12.size)⟩
theorem update_any (h : Int) (A : Option Addr) (m c : Nat) (key : List UInt8) (w : World) (hr : ReadsB w w.heap.size A m key) (hm : m ≤ 140737488355000) (htb : Tabs w) :
    Calls Tryz.prog 13 #[.int .i64 h, .slice A m c] w fun e w' => ∃ v, e = .returned v ∧ OwnB w' w.heap.size v (Sched.derive h key Sched.lUpdate []) ∧ Below w.heap.size w w' := by
  go_enter Tryz.func13, Tryz.ntmps13
  go_wp2_with (first | (go_at_call 35; refine (derive_any h A m c key Sched.lUpdate none 0 0 [] w hr hm ⟨rfl, Reads.none_⟩ htb).mono ?_; rintro e w2 ⟨v2, rfl, own2, hB2⟩))
  go_ret
  exact ⟨_, rfl, own2, hB2⟩
theorem finished_any (h : Int) (A : Option Addr) (m c : Nat) (key : List UInt8) (D : Option Addr) (k d : Nat) (sum : List UInt8) (w : World) (hr : ReadsB w w.heap.size A m key) (hm : m ≤ 140737488355000) (hi : ReadsB w w.heap.size D k sum) (hk : k ≤ 140737488355000) (htb : Tabs w) :
    Calls Tryz.prog 15 #[.int .i64 h, .slice A m c, .slice D k d] w fun e w' => ∃ v, e = .returned v ∧ OwnB w' w.heap.size v (Mac.code h (Sched.derive h key Sched.lFinished []) sum) ∧ Below w.heap.size w w' := by
  obtain ⟨K, HK⟩ : ∃ x, Hd (Sched.derive h key Sched.lFinished [] = x) := ⟨_, ⟨rfl⟩⟩
  have HKl := hd (show K.length ≤ 64 by rw [← HK.out]; exact Sched.derive_len _ _ _ _)
  go_enter Tryz.func15, Tryz.ntmps15
  go_wp2_with (first | (go_at_call 36; refine (macOf_any h A2 n2 c2 K (some ⟨w2.heap.size, 0, none⟩) 1 1 [⟨D, k, d, sum⟩] (w2.alloc (.cells #[.slice D k d] 25)) ⟨hr2.len, (hr2.is.below hBa).more hBa.size⟩ hn2 hp (by omega) ((htb.below hB2).alloc _)).mono ?_; rintro e w3 ⟨v3, rfl, own3, hB3⟩) | (go_at_call 35; refine (derive_any h A m c key Sched.lFinished none 0 0 [] w hr hm ⟨rfl, Reads.none_⟩ htb).mono ?_; rintro e w2 ⟨v2, rfl, own2, hB2⟩; rw [HK.out] at own2; obtain ⟨A2, c2, e2⟩ := own2.slice; obtain ⟨n2, Hn2⟩ : ∃ x, Hd (K.length = x) := ⟨_, ⟨rfl⟩⟩; rw [Hn2.out] at e2; subst e2; have hr2 : ReadsB w2 w2.heap.size A2 n2 K := ⟨Hn2.out, own2.reads_any.2.is⟩; have hn2 : n2 ≤ 140737488355000 := (by rw [← Hn2.out]; have := HKl.out; omega); have hi2 : ReadsB w2 w2.heap.size D k sum := ⟨hi.len, (hi.is.below hB2).more hB2.size⟩; have hp := parts_one (c := d) hi2 hk; have hBa : Below w2.heap.size w2 (w2.alloc (.cells #[.slice D k d] 25)) := (Below.refl _ _).alloc (Nat.le_refl _) _))
  go_ret
  rw [joined_one] at own3
  have hB := hB2.trans (hBa.mono hB2.size)
  exact ⟨_, rfl, by rw [HK.out]; exact own3.low hB.size, hB.trans (hB3.mono hB.size)⟩
theorem early_any (h : Int) (A : Option Addr) (m c : Nat) (psk : List UInt8) (w : World) (hr : ReadsB w w.heap.size A m psk) (hm : m ≤ 140737488355000) (htb : Tabs w) :
    Calls Tryz.prog 5 #[.int .i64 h, .slice A m c] w fun e w' => ∃ v, e = .returned v ∧ OwnB w' w.heap.size v (Sched.early h psk) ∧ Below w.heap.size w w' := by
  have hsl := Mac.size_le h
  have hlen := hr.len
  obtain ⟨n, HS⟩ : ∃ x, Hd (Sha.size h = x) := ⟨_, ⟨rfl⟩⟩
  rw [HS.out] at hsl
  have HZ := hd (show Sched.zeros h = List.replicate n 0 by rw [Sched.zeros, HS.out])
  obtain ⟨w2, hmk, own2, gr2⟩ := run_makeI w w.heap.size n n (Nat.le_refl _) (by omega) (Nat.le_refl _)
  have hB2 : Below w.heap.size w w2 := below_new (Below.refl _ _) gr2 (Nat.le_refl _)
  have hrz : ReadsB w2 w2.heap.size (some ⟨w.heap.size, 0, none⟩) n (List.replicate n 0) := ⟨List.length_replicate, own2.reads_any.2.is⟩
  by_cases h0 : m = 0
  · have HE := hd (show Sched.early h psk = Mac.code h (List.replicate n 0) (List.replicate n 0) by rw [Sched.early, if_pos (by omega), HZ.out])
    subst h0
    go_enter Tryz.func5, Tryz.ntmps5
    go_wp2_with (first | (go_at_call 23; refine (extract_any h (some ⟨w.heap.size, 0, none⟩) n n (List.replicate n 0) (some ⟨w.heap.size, 0, none⟩) n n (List.replicate n 0) w2 hrz (by omega) hrz (by omega) (htb.below hB2)).mono ?_; rintro e w3 ⟨v3, rfl, own3, hB3⟩) | (go_at_call 22; refine (size_any h w).mono ?_; rintro e wz ⟨rfl, rfl⟩; rw [HS.out]))
    go_ret
    exact ⟨_, rfl, by rw [HE.out]; exact own3.low hB2.size, hB2.trans (hB3.mono hB2.size)⟩
  · have HE := hd (show Sched.early h psk = Mac.code h (List.replicate n 0) psk by rw [Sched.early, if_neg (by omega), HZ.out])
    have h0' : ¬ (m : Int) = 0 := by omega
    have hr2 : ReadsB w2 w2.heap.size A m psk := ⟨hr.len, (hr.is.below hB2).more hB2.size⟩
    go_enter Tryz.func5, Tryz.ntmps5
    go_wp2_with (first | (go_at_call 23; refine (extract_any h (some ⟨w.heap.size, 0, none⟩) n n (List.replicate n 0) A m c psk w2 hrz (by omega) hr2 hm (htb.below hB2)).mono ?_; rintro e w3 ⟨v3, rfl, own3, hB3⟩) | (go_at_call 22; refine (size_any h w).mono ?_; rintro e wz ⟨rfl, rfl⟩; rw [HS.out]))
    go_ret
    exact ⟨_, rfl, by rw [HE.out]; exact own3.low hB2.size, hB2.trans (hB3.mono hB2.size)⟩
end Go.Proofs.YtbcboldepghgpaaGreatDoor
