/-
  The walk of suite.Seal with a key of 16 bytes.
-/
import Derived.Test.YthigbggacgiamaaDoorSuiteA
import Derived.Test.YthigbggacgiamaaDoorJa
import Derived.Test.YthigbggacgiamaaDoorGcmG
set_option linter.unusedVariables false
set_option linter.unusedSimpArgs false
set_option maxRecDepth 100000
namespace Go.Proofs.YthigbggacgiamaaDoor
open Go.RowKit
set_option maxHeartbeats 2000000 in
set_option maxRecDepth 100000 in
theorem key128_any (cs : Array Value) (A : Option Addr) (c : Nat) (key : List UInt8) (w : World) (hr : ReadsB w w.heap.size A 16 key) :
    Calls Tryd.prog 108 #[.agg cs, .slice A 16 c] w fun e w' => e = .returned (.agg (arr key)) ∧ Below w.heap.size w w' := by
  have Hkl := hd hr.len
  have h0 : Blk (((w.alloc (.cells cs 91)).alloc (.cells (arr (List.replicate 16 0)) 87)).alloc (.cells (arr (List.replicate 16 0)) 87)) (w.heap.size + 1) 87 (arr (List.replicate 16 0)) ∧ Blk (((w.alloc (.cells cs 91)).alloc (.cells (arr (List.replicate 16 0)) 87)).alloc (.cells (arr (List.replicate 16 0)) 87)) (w.heap.size + 1 + 1) 87 (arr (List.replicate 16 0)) ∧
      Below w.heap.size w (((w.alloc (.cells cs 91)).alloc (.cells (arr (List.replicate 16 0)) 87)).alloc (.cells (arr (List.replicate 16 0)) 87)) :=
    ⟨(Blk.nu (by simp)).alloc _, Blk.nu (by simp), (((Below.refl _ _).alloc (by simp) _).alloc (by simp) _).alloc (by simp; omega) _⟩
  go_enter Tryd.func108, Tryd.ntmps108
  go_wp2_with (first | (refine wpl_load_arr rfl 87 _ rfl _ rfl 16 ty16 (List.replicate 16 0) List.length_replicate b1.cells_arr ?_) | (refine wpl_alloc rfl 87 rfl _ zero16 ?_; simp only [World.size_alloc]; first | (refine wpl_name (fun wo => Blk wo (w.heap.size + 1) 87 (arr (List.replicate 16 0)) ∧ Blk wo (w.heap.size + 1 + 1) 87 (arr (List.replicate 16 0)) ∧ Below w.heap.size w wo) h0 ?_; clear h0; rintro wo ⟨b0, b1, hB⟩) | skip))
  go_loopw [9] (fun i wr => ∃ k : Nat, k ≤ 16 ∧ i = .int .i64 (k : Int) ∧ Blk wr (w.heap.size + 1) 87 (arr (List.replicate 16 0)) ∧ Blk wr (w.heap.size + 1 + 1) 87 (arr (iter (Suite.fillStep key) k (List.replicate 16 0))) ∧ Below w.heap.size w wr) (fun i _ => 16 - (intOf i).toNat)
  case atStart => exact ⟨0, by omega, rfl, b0, b1, hB⟩
  case round =>
    clear b0 b1 hB
    obtain ⟨k, hk, rfl, b0, b1, hB⟩ := hrel
    obtain ⟨s, Hs⟩ : ∃ s, Hd (iter (Suite.fillStep key) k (List.replicate 16 0) = s) := ⟨_, ⟨rfl⟩⟩
    rw [Hs.out] at b1
    have Hl := hd (show s.length = 16 by rw [← Hs.out, Suite.fillStep_len]; exact List.length_replicate)
    by_cases hlt : k < 16
    · have tk : (k : Int) < 16 := by omega
      obtain ⟨ad, hA, had, hcw⟩ := hr.cell hlt
      subst hA
      have c0 : wr.cell? (ad.add k) = some (.int .u8 (n8 (nth key k))) := (hB.cell (by rw [block_of_add]; exact had)).trans hcw
      have c1 := b1.arr_cell k (by rw [Hl.out]; exact hlt)
      have f1 := b1.frozen k
      go_wp2
      go_roundw
      case rel => exact ⟨k + 1, by omega, by go_num, b0.far (by simp <;> omega) _, by rw [iter, Hs.out]; exact b1.arr_set _ _, hB.setCell (by simp <;> omega) _⟩
      case measure => simp [intOf] <;> omega
    · have ek : k = 16 := by omega
      subst ek
      have tk : ¬ ((16 : Nat) : Int) < 16 := by omega
      have Hfin := hd (show key = s by
        have h := Suite.fill_all key
        rw [Hkl.out, Hs.out] at h
        exact h.symm)
      go_wp2_with (first | (refine wpl_load_arr rfl 87 _ rfl _ rfl 16 ty16 s Hl.out b1.cells_arr ?_) | (refine wpl_store_arr rfl 87 _ _ rfl (w.heap.size + 1) s rfl rfl 87 _ b0 16 ty16.size Hl.out (by rw [arr_size, List.length_replicate]) ?_))
      rw [Hfin.out]
      exact ret_arr rfl (w.heap.size + 1) rfl ty16 s Hl.out (b0.setRow _).cells_arr rfl ⟨rfl, below_setRow hB (by omega) _⟩
set_option maxHeartbeats 2000000 in
set_option maxRecDepth 100000 in
theorem sealGCM_any (A : Option Addr) (n c : Nat) (key nonce : List UInt8) (hn : nonce.length = 12) (D : Option Addr) (p q : Nat) (aside : List UInt8) (E : Option Addr) (m d : Nat) (text : List UInt8) (w : World) (hr : ReadsB w w.heap.size A n key) (hk : n = 16 ∨ n = 32)
    (ha : ReadsB w w.heap.size D p aside) (hpq : p ≤ q) (hp : p ≤ 140737488355328) (ht : ReadsB w w.heap.size E m text) (hm : m ≤ 140737488355312) :
    Calls Tryd.prog 34 #[.slice A n c, .agg (arr nonce), .slice D p q, .slice E m d] w fun e w' => ∃ v, e = .returned v ∧ OwnB w' w.heap.size v (Gcm.lock (Aes.keys key) nonce aside text) ∧ Below w.heap.size w w' := by
  have Hn := hd hn
  clear hn
  obtain ⟨L, HL⟩ : ∃ l, Hd (Gcm.lock (Aes.keys key) nonce aside text = l) := ⟨_, ⟨rfl⟩⟩
  rw [HL.out]
  have hB1 := (Below.refl w.heap.size w).alloc (Nat.le_refl _) (.cells (arr nonce) 27)
  have b0 : Blk (w.alloc (.cells (arr nonce) 27)) w.heap.size 27 (arr nonce) := Blk.nu rfl
  go_enter Tryd.func34, Tryd.ntmps34
  go_wp2_with (refine wpl_load_arr rfl 27 _ rfl _ rfl 12 ty12 nonce Hn.out b0.cells_arr ?_)
  refine (lock_made A n c key nonce Hn.out D p q aside E m d text _ (hr.onward hB1) hk (ha.onward hB1) hpq hp (ht.onward hB1) hm).mono ?_
  rintro e w2 ⟨v, rfl, own, hB2⟩
  rw [HL.out] at own
  have hB3 := hB1.trans (hB2.mono hB1.size)
  have hle := hB1.size
  clear hB2 b0
  go_wp2
  go_ret
  exact ⟨v, rfl, own.lower hle, hB3⟩
set_option maxHeartbeats 2000000 in
set_option maxRecDepth 100000 in
theorem of1_any (key nonce : List UInt8) (hkl : key.length = 16) (hn : nonce.length = 12) (D : Option Addr) (p q : Nat) (aside : List UInt8) (E : Option Addr) (m d : Nat) (text : List UInt8) (w : World)
    (ha : ReadsB w w.heap.size D p aside) (hpq : p ≤ q) (hp : p ≤ 140737488355328) (ht : ReadsB w w.heap.size E m text) (hm : m ≤ 140737488355312) :
    Calls Tryd.prog 33 #[.agg (arr key), .agg (arr nonce), .slice D p q, .slice E m d] w fun e w' => ∃ v, e = .returned v ∧ OwnB w' w.heap.size v (Gcm.lock (Aes.keys key) nonce aside text) ∧ Below w.heap.size w w' := by
  have Hn := hd hn
  have Hkl := hd hkl
  clear hn hkl
  obtain ⟨L, HL⟩ : ∃ l, Hd (Gcm.lock (Aes.keys key) nonce aside text = l) := ⟨_, ⟨rfl⟩⟩
  rw [HL.out]
  have hB1 := ((Below.refl w.heap.size w).alloc (Nat.le_refl _) (.cells (arr key) 87)).alloc (by simp) (.cells (arr nonce) 27)
  have b0 : Blk ((w.alloc (.cells (arr key) 87)).alloc (.cells (arr nonce) 27)) w.heap.size 87 (arr key) := (Blk.nu rfl).alloc _
  have b1 : Blk ((w.alloc (.cells (arr key) 87)).alloc (.cells (arr nonce) 27)) (w.heap.size + 1) 27 (arr nonce) := Blk.nu (by simp)
  go_enter Tryd.func33, Tryd.ntmps33
  go_wp2
  refine wp_name (fun wo => Blk wo w.heap.size 87 (arr key) ∧ Blk wo (w.heap.size + 1) 27 (arr nonce) ∧ Below w.heap.size w wo) ⟨b0, b1, hB1⟩ ?_
  clear b0 b1 hB1
  rintro wo ⟨b0, b1, hB1⟩
  have d0 := b0.drew
  have d1 := b1.drew
  have hBd := hB1.drew
  go_still_tail 4, (by kernel_rfl)
  refine still_load_arr rfl 27 _ rfl _ rfl 12 ty12 nonce Hn.out d1.cells_arr ?_
  repeat still_step
  change wpList _ _ _ _ _ wo.drew
  go_wp2_with fail
  refine (sealGCM_any (some ⟨w.heap.size, 0, none⟩) 16 16 key nonce Hn.out D p q aside E m d text _ ⟨Hkl.out, by rw [List.length_map, Hkl.out], fun _ => ⟨_, rfl, d0.lt, d0.cells_arr.is⟩⟩ (.inl rfl) (ha.onward hBd) hpq hp (ht.onward hBd) hm).mono ?_
  rintro e w2 ⟨v, rfl, own, hB2⟩
  rw [HL.out] at own
  have hB3 := hBd.trans (hB2.mono hBd.size)
  have hle := hBd.size
  clear hB2 b0 b1 d0 d1
  go_wp2
  go_ret
  exact ⟨v, rfl, own.lower hle, hB3⟩
theorem field0_128 (z : Nat) (w : World) : (Instr.fieldAt 91 (.pointer (some ⟨z, 0, none⟩)) 0).run Tryd.prog w = .ok (.pointer (some ⟨z, 0, none⟩)) w := by kernel_rfl
theorem run_fieldAddrS {P : Program} {w : World} {o : Oper} {ρ : Operand → Value} {t : TypeId} {x : Operand} {i : Nat} {v r : Value} (ho : o.op = .fieldAddr t x i) (hx : ρ x = v) (h : ∀ w, (Instr.fieldAt t v i).run P w = .ok r w) : (execOp ρ o).run P w = .ok (.value r) w := by
  unfold execOp
  simp only [ho, hx, Sem.run_bind, h, Result.andThen_ok]
  rfl
theorem run_loadVar_f (ad : Addr) (v : Value) (w : World) (h : w.cell? ad = some v) : (loadVar 88 ad).run Tryd.prog w = .ok v w := by
  simp [loadVar, go_sem, h]
theorem agg_l128 : AggT Tryd.prog 91 2 := ⟨by kernel_rfl, by kernel_rfl⟩
/-- A lock's cells, a nonce, three slices that came in. -/
structure LkS (w : World) (z : Nat) (cs : Array Value) (t : TypeId) (y : Nat) (nonce : List UInt8) (A : Option Addr) (n : Nat) (key : List UInt8) (D : Option Addr) (p : Nat) (aside : List UInt8) (E : Option Addr) (m : Nat) (text : List UInt8) (W : World) : Prop where
  lk : Blk W z t cs
  at_ : Blk W y 27 (arr nonce)
  rk : ReadsB W W.heap.size A n key
  ra : ReadsB W W.heap.size D p aside
  rt : ReadsB W W.heap.size E m text
  old : Below w.heap.size w W
section
variable {w : World} {z : Nat} {cs : Array Value} {t : TypeId} {y : Nat} {nonce : List UInt8} {A : Option Addr} {n : Nat} {key : List UInt8} {D : Option Addr} {p : Nat} {aside : List UInt8} {E : Option Addr} {m : Nat} {text : List UInt8} {W w' : World}
theorem LkS.next (h : LkS w z cs t y nonce A n key D p aside E m text W) (hb : Below W.heap.size W w') : LkS w z cs t y nonce A n key D p aside E m text w' :=
  ⟨h.lk.below hb h.lk.lt, h.at_.below hb h.at_.lt, h.rk.onward hb, h.ra.onward hb, h.rt.onward hb, h.old.trans (hb.mono h.old.size)⟩
theorem LkS.drew (h : LkS w z cs t y nonce A n key D p aside E m text W) : LkS w z cs t y nonce A n key D p aside E m text W.drew := h.next (Below.refl _ _).drew
end
/-- The one operation that may come up enters a function. -/
theorem held_enter {P : Program} {ops : Array Oper} {Q : Exit → Act → World → Prop} {md : Region.Mode} {S : World → Prop} {o : Oper} {fuel : Nat} {listed : Array Bool} {a : Act} {w : World} (i : Nat) (hr : Region.ready md ops listed = [i]) (hi : ops[i]? = some o) (hw : Region.wanted o (yielded ops a.tmps) = true) (f : FuncId) (args : Array Value)
    (hx : ∀ w, (execOp a.eval o).run P w = .ok (.enter f args) w)
    (h : Calls P f args w fun e w' => ∃ v, e = .returned v ∧ S w' ∧ (S w' → wpAnyH P md ops Q S fuel (listed.setIfInBounds i true) (a.put o.dst v) w')) : wpAnyH P md ops Q S (fuel + 1) listed a w := by
  refine wpAnyH_ready hr (by simp) (AllReadyH.cons hi (fun K hK => ?_) AllReadyH.nil)
  rw [if_pos hw]
  unfold Oper.wp
  rw [hx]
  refine h.mono ?_
  rintro e w' ⟨v, rfl, hS, hW⟩
  exact hK.out _ _ hS hW
/-- A call of a function that a slot holds. -/
theorem run_callValue {P : Program} {w : World} {o : Oper} {ρ : Operand → Value} {x : Operand} {xs : Array Operand} {ats : Array TypeId} (ho : o.op = .call { callee := .value x, args := xs, argTypes := ats }) (f : FuncId) (hx : ρ x = .func (.func f) #[] #[]) (args : Array Value) (ha : xs.map ρ = args)
    (hf : ∀ w, (callFunc f args).run P w = .ok (.enter f args) w) : (execOp ρ o).run P w = .ok (.enter f args) w := by
  unfold execOp
  simp only [ho, resolve, hx, ha]
  simp [go_sem, hf]
theorem enter_key128 (args : Array Value) (w : World) : (callFunc 108 args).run Tryd.prog w = .ok (.enter 108 args) w := by kernel_rfl
theorem enter_of1 (args : Array Value) (w : World) : (callFunc 33 args).run Tryd.prog w = .ok (.enter 33 args) w := by kernel_rfl
set_option maxHeartbeats 4000000 in
set_option maxRecDepth 100000 in
theorem sealed128_any (A : Option Addr) (c : Nat) (key nonce : List UInt8) (hn : nonce.length = 12) (D : Option Addr) (p q : Nat) (aside : List UInt8) (E : Option Addr) (m d : Nat) (text : List UInt8) (w : World) (hr : ReadsB w w.heap.size A 16 key)
    (ha : ReadsB w w.heap.size D p aside) (hpq : p ≤ q) (hp : p ≤ 140737488355328) (ht : ReadsB w w.heap.size E m text) (hm : m ≤ 140737488355312) :
    Calls Tryd.prog 106 #[.agg Suite.c128, .slice A 16 c, .agg (arr nonce), .slice D p q, .slice E m d] w fun e w' => ∃ v, e = .returned v ∧ OwnB w' w.heap.size v (Gcm.lock (Aes.keys key) nonce aside text) ∧ Below w.heap.size w w' := by
  have Hn := hd hn
  clear hn
  obtain ⟨L, HL⟩ : ∃ l, Hd (Gcm.lock (Aes.keys key) nonce aside text = l) := ⟨_, ⟨rfl⟩⟩
  rw [HL.out]
  have hS0 : LkS w (w.heap.size) Suite.c128 91 (w.heap.size + 1) nonce A 16 key D p aside E m text ((w.alloc (.cells Suite.c128 91)).alloc (.cells (arr nonce) 27)) := by
    have hB := ((Below.refl w.heap.size w).alloc (Nat.le_refl _) (.cells Suite.c128 91)).alloc (by simp) (.cells (arr nonce) 27)
    exact ⟨(Blk.nu rfl).alloc _, Blk.nu (by simp), hr.onward hB, ha.onward hB, ht.onward hB, hB⟩
  go_enter Tryd.func106, Tryd.ntmps106
  go_wp2
  refine wp_region_held_drew (S := LkS w (w.heap.size) Suite.c128 91 (w.heap.size + 1) nonce A 16 key D p aside E m text) (by kernel_rfl) hS0.drew ?_
  intro hS1
  clear hS0
  refine held_take 0 (o := _) rfl (by kernel_rfl) (by kernel_rfl) (by kernel_rfl) rfl (.pointer (some ⟨w.heap.size, 0, none⟩)) (fun _ _ _ h => h) (fun W hW => run_fieldAddrS (by rfl) (by simp [Act.eval]) (field0_128 _)) (by assumption) ?_
  simp only [Act.put, List.getElem_toArray, List.getElem_cons_succ, List.getElem_cons_zero, List.setIfInBounds_toArray, List.set_cons_zero, List.set_cons_succ]
  refine held_take 1 (o := _) rfl (by kernel_rfl) (by kernel_rfl) (by kernel_rfl) rfl (.func (.func 33) #[] #[]) (fun _ _ _ h => h) (fun W hW => run_execOp_load (by rfl) (by simp [Act.eval]) (run_loadVar_f _ _ W ((LkS.lk hW).cell 0))) (by assumption) ?_
  simp only [Act.put, List.getElem_toArray, List.getElem_cons_succ, List.getElem_cons_zero, List.setIfInBounds_toArray, List.set_cons_zero, List.set_cons_succ]
  refine held_take 2 (o := _) rfl (by kernel_rfl) (by kernel_rfl) (by kernel_rfl) rfl (.agg Suite.c128) (fun _ _ _ h => h) (fun W hW => run_execOp_load (by rfl) (by simp [Act.eval]) (run_loadVar_cells agg_l128 ⟨w.heap.size, 0, none⟩ Suite.c128.toList rfl ((LkS.lk hW).cells_at 0 _ (fun j v hv => by rw [Nat.zero_add, ← Array.getElem?_toList]; exact hv)).is)) (by assumption) ?_
  simp only [Act.put, List.getElem_toArray, List.getElem_cons_succ, List.getElem_cons_zero, List.setIfInBounds_toArray, List.set_cons_zero, List.set_cons_succ]
  refine held_take 3 (o := _) rfl (by kernel_rfl) (by kernel_rfl) (by kernel_rfl) rfl (.slice A 16 c) (fun _ _ _ h => h) (fun W hW => run_move (by rfl) (by simp [Act.eval]) W) (by assumption) ?_
  simp only [Act.put, List.getElem_toArray, List.getElem_cons_succ, List.getElem_cons_zero, List.setIfInBounds_toArray, List.set_cons_zero, List.set_cons_succ]
  refine held_take 5 (o := _) rfl (by kernel_rfl) (by kernel_rfl) (by kernel_rfl) rfl (.agg (arr nonce)) (fun _ _ _ h => h) (fun W hW => run_load_arr (by rfl) (by simp [Act.eval]) ty12 nonce Hn.out (LkS.at_ hW).cells_arr) (by assumption) ?_
  simp only [Act.put, List.getElem_toArray, List.getElem_cons_succ, List.getElem_cons_zero, List.setIfInBounds_toArray, List.set_cons_zero, List.set_cons_succ]
  refine held_take 6 (o := _) rfl (by kernel_rfl) (by kernel_rfl) (by kernel_rfl) rfl (.slice D p q) (fun _ _ _ h => h) (fun W hW => run_move (by rfl) (by simp [Act.eval]) W) (by assumption) ?_
  simp only [Act.put, List.getElem_toArray, List.getElem_cons_succ, List.getElem_cons_zero, List.setIfInBounds_toArray, List.set_cons_zero, List.set_cons_succ]
  refine held_take 7 (o := _) rfl (by kernel_rfl) (by kernel_rfl) (by kernel_rfl) rfl (.slice E m d) (fun _ _ _ h => h) (fun W hW => run_move (by rfl) (by simp [Act.eval]) W) (by assumption) ?_
  simp only [Act.put, List.getElem_toArray, List.getElem_cons_succ, List.getElem_cons_zero, List.setIfInBounds_toArray, List.set_cons_zero, List.set_cons_succ]
  refine held_callG 4 (by kernel_rfl) (o := _) rfl (by simp [Region.wanted, yielded]) 108 _ _ rfl #[.agg Suite.c128, .slice A 16 c] (by simp [Act.eval]) (enter_key128 _) ?_
  refine (key128_any Suite.c128 A c key _ hS1.rk).mono ?_
  rintro e w5 ⟨rfl, hB5⟩
  refine ⟨_, rfl, hS1.next hB5, ?_⟩
  intro hS5
  clear hS1 hB5
  simp only [Act.put, List.getElem_toArray, List.getElem_cons_succ, List.getElem_cons_zero, List.setIfInBounds_toArray, List.set_cons_zero, List.set_cons_succ]
  refine held_enter 8 (by kernel_rfl) (o := _) rfl (by simp [Region.wanted, yielded]) 33 #[.agg (arr key), .agg (arr nonce), .slice D p q, .slice E m d] (fun w => run_callValue (by rfl) _ (by simp [Act.eval]) _ (by simp [Act.eval]) (enter_of1 _)) ?_
  refine (of1_any key nonce hr.len Hn.out D p q aside E m d text _ hS5.ra hpq hp hS5.rt hm).mono ?_
  rintro e w6 ⟨v, rfl, own, hB6⟩
  rw [HL.out] at own
  have hle := hS5.old.size
  refine ⟨_, rfl, hS5.next hB6, ?_⟩
  intro hS6
  clear hS5 hB6
  simp only [Act.put, List.getElem_toArray, List.getElem_cons_succ, List.getElem_cons_zero, List.setIfInBounds_toArray, List.set_cons_zero, List.set_cons_succ]
  refine held_take 9 (o := _) rfl (by kernel_rfl) (by kernel_rfl) (by kernel_rfl) rfl (v) (fun _ _ _ h => h) (fun W hW => run_assign (by rfl) (by simp [Act.eval]) W) (by assumption) ?_
  simp only [Act.put, List.getElem_toArray, List.getElem_cons_succ, List.getElem_cons_zero, List.setIfInBounds_toArray, List.set_cons_zero, List.set_cons_succ]
  refine wpAnyH_done (by kernel_rfl) ?_ _
  go_wp2
  go_ret
  exact ⟨v, rfl, own.lower hle, hS6.old⟩
end Go.Proofs.YthigbggacgiamaaDoor
