/-
  suite.Seal and suite.Open, of every suite.
-/
import Derived.Test.YthigbggacgiamaaDoorSuiteC
import Derived.Test.YthigbggacgiamaaDoorChaN
import Derived.Test.YthigbggacgiamaaDoorOpenA
set_option linter.unusedVariables false
set_option linter.unusedSimpArgs false
set_option maxRecDepth 100000
namespace Go.Proofs.YthigbggacgiamaaDoor
open Go.RowKit
theorem run_extract {P : Program} {w : World} {o : Oper} {ρ : Operand → Value} {x : Operand} {i : Nat} (ho : o.op = .extract x i) (vs : Array Value) (v : Value) (hx : ρ x = .tuple vs) (hv : vs[i]? = some v) : (execOp ρ o).run P w = .ok (.value v) w := by
  unfold execOp
  simp only [ho, hx, Instr.extract]
  simp [part, hv, go_sem]
/-- A slice and an error: of what was opened, or of a refusal. -/
def OpenedE (c : Nat) (w : World) (r : Option (List UInt8)) (e : Ending) (w' : World) : Prop := match r with
  | some l => ∃ v, e = .returned (.tuple #[v, .int .i64 0]) ∧ OwnB w' w.heap.size v l ∧ Below w.heap.size w w'
  | none => e = .returned (.tuple #[.slice none 0 0, .int .i64 (c : Int)]) ∧ Below w.heap.size w w'
theorem Opened.low {w w1 w' : World} {r : Option (List UInt8)} {e : Ending} (h : Opened w1 r e w') (hb : Below w.heap.size w w1) : OpenedE 81 w r e w' := by
  unfold Opened at h
  unfold OpenedE
  cases r with
  | none => exact ⟨h.1, hb.trans (h.2.mono hb.size)⟩
  | some l => obtain ⟨v, e, own, hB⟩ := h; exact ⟨v, e, own.lower hb.size, hb.trans (hB.mono hb.size)⟩
theorem Cha.Opened.low {w w1 w' : World} {r : Option (List UInt8)} {e : Ending} (h : Cha.Opened w1 r e w') (hb : Below w.heap.size w w1) : OpenedE 91 w r e w' := by
  unfold Cha.Opened at h
  unfold OpenedE
  cases r with
  | none => exact ⟨h.1, hb.trans (h.2.mono hb.size)⟩
  | some l => obtain ⟨v, e, own, hB⟩ := h; exact ⟨v, e, own.lower hb.size, hb.trans (hB.mono hb.size)⟩
theorem OpenedE.low {c : Nat} {w w1 w' : World} {r : Option (List UInt8)} {e : Ending} (h : OpenedE c w1 r e w') (hb : Below w.heap.size w w1) : OpenedE c w r e w' := by
  unfold OpenedE at *
  cases r with
  | none => exact ⟨h.1, hb.trans (h.2.mono hb.size)⟩
  | some l => obtain ⟨v, e, own, hB⟩ := h; exact ⟨v, e, own.lower hb.size, hb.trans (hB.mono hb.size)⟩
/-- A key, a nonce, two slices that came in. -/
structure Og (w : World) (t : TypeId) (key nonce : List UInt8) (D : Option Addr) (p : Nat) (aside : List UInt8) (E : Option Addr) (m : Nat) (text : List UInt8) (W : World) : Prop where
  bk : Blk W w.heap.size t (arr key)
  bn : Blk W (w.heap.size + 1) 27 (arr nonce)
  ra : ReadsB W W.heap.size D p aside
  rt : ReadsB W W.heap.size E m text
  old : Below w.heap.size w W
theorem Og.next {w : World} {t : TypeId} {key nonce : List UInt8} {D : Option Addr} {p : Nat} {aside : List UInt8} {E : Option Addr} {m : Nat} {text : List UInt8} {W w' : World} (h : Og w t key nonce D p aside E m text W) (hb : Below W.heap.size W w') : Og w t key nonce D p aside E m text w' :=
  ⟨h.bk.below hb h.bk.lt, h.bn.below hb h.bn.lt, h.ra.onward hb, h.rt.onward hb, h.old.trans (hb.mono h.old.size)⟩
theorem run_slice16 {w : World} {o : Oper} {ρ : Operand → Value} {x : Operand} (ho : o.op = .slice 87 x none none none) (z : Nat) (hx : ρ x = .pointer (some ⟨z, 0, none⟩)) : (execOp ρ o).run Tryd.prog w = .ok (.value (.slice (some ⟨z, 0, none⟩) 16 16)) w := by
  have hs : (Tryd.prog.info? 5).map (·.size) = some 1 := by kernel_rfl
  unfold execOp
  simp only [ho, hx]
  simp [go_sem, Instr.sliceAt, Instr.slice, Instr.sliceBounds, Instr.sliceBound, run_underlying Tryd.underlying87, run_sizeOf hs, asIntOf, Addr.add_zero']
theorem enterS_gopen (args : Array Value) (w : World) : (callFunc 36 args).run Tryd.prog w = .ok (.enter 36 args) w := by kernel_rfl
set_option maxHeartbeats 2000000 in
set_option maxRecDepth 100000 in
theorem key256_any (cs : Array Value) (A : Option Addr) (c : Nat) (key : List UInt8) (w : World) (hr : ReadsB w w.heap.size A 32 key) :
    Calls Tryd.prog 109 #[.agg cs, .slice A 32 c] w fun e w' => e = .returned (.agg (arr key)) ∧ Below w.heap.size w w' := by
  have Hkl := hd hr.len
  have h0 : Blk (((w.alloc (.cells cs 95)).alloc (.cells (arr (List.replicate 32 0)) 23)).alloc (.cells (arr (List.replicate 32 0)) 23)) (w.heap.size + 1) 23 (arr (List.replicate 32 0)) ∧ Blk (((w.alloc (.cells cs 95)).alloc (.cells (arr (List.replicate 32 0)) 23)).alloc (.cells (arr (List.replicate 32 0)) 23)) (w.heap.size + 1 + 1) 23 (arr (List.replicate 32 0)) ∧
      Below w.heap.size w (((w.alloc (.cells cs 95)).alloc (.cells (arr (List.replicate 32 0)) 23)).alloc (.cells (arr (List.replicate 32 0)) 23)) :=
    ⟨(Blk.nu (by simp)).alloc _, Blk.nu (by simp), (((Below.refl _ _).alloc (by simp) _).alloc (by simp) _).alloc (by simp; omega) _⟩
  go_enter Tryd.func109, Tryd.ntmps109
  go_wp2_with (first | (refine wpl_load_arr rfl 23 _ rfl _ rfl 32 ty32 (List.replicate 32 0) List.length_replicate b1.cells_arr ?_) | (refine wpl_alloc rfl 23 rfl _ zero32 ?_; simp only [World.size_alloc]; first | (refine wpl_name (fun wo => Blk wo (w.heap.size + 1) 23 (arr (List.replicate 32 0)) ∧ Blk wo (w.heap.size + 1 + 1) 23 (arr (List.replicate 32 0)) ∧ Below w.heap.size w wo) h0 ?_; clear h0; rintro wo ⟨b0, b1, hB⟩) | skip))
  go_loopw [9] (fun i wr => ∃ k : Nat, k ≤ 32 ∧ i = .int .i64 (k : Int) ∧ Blk wr (w.heap.size + 1) 23 (arr (List.replicate 32 0)) ∧ Blk wr (w.heap.size + 1 + 1) 23 (arr (iter (Suite.fillStep key) k (List.replicate 32 0))) ∧ Below w.heap.size w wr) (fun i _ => 32 - (intOf i).toNat)
  case atStart => exact ⟨0, by omega, rfl, b0, b1, hB⟩
  case round =>
    clear b0 b1 hB
    obtain ⟨k, hk, rfl, b0, b1, hB⟩ := hrel
    obtain ⟨s, Hs⟩ : ∃ s, Hd (iter (Suite.fillStep key) k (List.replicate 32 0) = s) := ⟨_, ⟨rfl⟩⟩
    rw [Hs.out] at b1
    have Hl := hd (show s.length = 32 by rw [← Hs.out, Suite.fillStep_len]; exact List.length_replicate)
    by_cases hlt : k < 32
    · have tk : (k : Int) < 32 := by omega
      obtain ⟨ad, hA, had, hcw⟩ := hr.cell hlt
      subst hA
      have c0 : wr.cell? (ad.add k) = some (.int .u8 (n8 (nth key k))) := (hB.cell (by rw [block_of_add]; exact had)).trans hcw
      have c1 := b1.arr_cell k (by rw [Hl.out]; exact hlt)
      have f1 := b1.frozen k
      go_wp2
      go_roundw
      case rel => exact ⟨k + 1, by omega, by go_num, b0.far (by simp <;> omega) _, by rw [iter, Hs.out]; exact b1.arr_set _ _, hB.setCell (by simp <;> omega) _⟩
      case measure => simp [intOf] <;> omega
    · have ek : k = 32 := by omega
      subst ek
      have tk : ¬ ((32 : Nat) : Int) < 32 := by omega
      have Hfin := hd (show key = s by
        have h := Suite.fill_all key
        rw [Hkl.out, Hs.out] at h
        exact h.symm)
      go_wp2_with (first | (refine wpl_load_arr rfl 23 _ rfl _ rfl 32 ty32 s Hl.out b1.cells_arr ?_) | (refine wpl_store_arr rfl 23 _ _ rfl (w.heap.size + 1) s rfl rfl 23 _ b0 32 ty32.size Hl.out (by rw [arr_size, List.length_replicate]) ?_))
      rw [Hfin.out]
      exact ret_arr rfl (w.heap.size + 1) rfl ty32 s Hl.out (b0.setRow _).cells_arr rfl ⟨rfl, below_setRow hB (by omega) _⟩
set_option maxHeartbeats 2000000 in
set_option maxRecDepth 100000 in
theorem of3_any (key nonce : List UInt8) (hkl : key.length = 32) (hn : nonce.length = 12) (D : Option Addr) (p q : Nat) (aside : List UInt8) (E : Option Addr) (m d : Nat) (text : List UInt8) (w : World)
    (ha : ReadsB w w.heap.size D p aside) (hpq : p ≤ q) (hp : p ≤ 140737488355328) (ht : ReadsB w w.heap.size E m text) (hm : m ≤ 140737488355312) :
    Calls Tryd.prog 37 #[.agg (arr key), .agg (arr nonce), .slice D p q, .slice E m d] w fun e w' => ∃ v, e = .returned v ∧ OwnB w' w.heap.size v (Gcm.lock (Aes.keys key) nonce aside text) ∧ Below w.heap.size w w' := by
  have Hn := hd hn
  have Hkl := hd hkl
  clear hn hkl
  obtain ⟨L, HL⟩ : ∃ l, Hd (Gcm.lock (Aes.keys key) nonce aside text = l) := ⟨_, ⟨rfl⟩⟩
  rw [HL.out]
  have hB1 := ((Below.refl w.heap.size w).alloc (Nat.le_refl _) (.cells (arr key) 23)).alloc (by simp) (.cells (arr nonce) 27)
  have b0 : Blk ((w.alloc (.cells (arr key) 23)).alloc (.cells (arr nonce) 27)) w.heap.size 23 (arr key) := (Blk.nu rfl).alloc _
  have b1 : Blk ((w.alloc (.cells (arr key) 23)).alloc (.cells (arr nonce) 27)) (w.heap.size + 1) 27 (arr nonce) := Blk.nu (by simp)
  go_enter Tryd.func37, Tryd.ntmps37
  go_wp2
  refine wp_name (fun wo => Blk wo w.heap.size 23 (arr key) ∧ Blk wo (w.heap.size + 1) 27 (arr nonce) ∧ Below w.heap.size w wo) ⟨b0, b1, hB1⟩ ?_
  clear b0 b1 hB1
  rintro wo ⟨b0, b1, hB1⟩
  have d0 := b0.drew
  have d1 := b1.drew
  have hBd := hB1.drew
  go_still_tail 4, (by kernel_rfl)
  refine still_load_arr rfl 27 _ rfl _ rfl 12 ty12 nonce Hn.out d1.cells_arr ?_
  repeat still_step
  change wpList _ _ _ _ _ wo.drew
  go_wp2_with fail
  refine (sealGCM_any (some ⟨w.heap.size, 0, none⟩) 32 32 key nonce Hn.out D p q aside E m d text _ ⟨Hkl.out, by rw [List.length_map, Hkl.out], fun _ => ⟨_, rfl, d0.lt, d0.cells_arr.is⟩⟩ (.inr rfl) (ha.onward hBd) hpq hp (ht.onward hBd) hm).mono ?_
  rintro e w2 ⟨v, rfl, own, hB2⟩
  rw [HL.out] at own
  have hB3 := hBd.trans (hB2.mono hBd.size)
  have hle := hBd.size
  clear hB2 b0 b1 d0 d1
  go_wp2
  go_ret
  exact ⟨v, rfl, own.lower hle, hB3⟩
set_option maxHeartbeats 2000000 in
set_option maxRecDepth 100000 in
theorem of2_any (key nonce : List UInt8) (hkl : key.length = 16) (hn : nonce.length = 12) (D : Option Addr) (p q : Nat) (aside : List UInt8) (E : Option Addr) (m d : Nat) (text : List UInt8) (w : World)
    (ha : ReadsB w w.heap.size D p aside) (hpq : p ≤ q) (ht : ReadsB w w.heap.size E m text) (hmd : m ≤ d) (hs : p + m ≤ 140737488355200) :
    Calls Tryd.prog 35 #[.agg (arr key), .agg (arr nonce), .slice D p q, .slice E m d] w fun e w' => OpenedE 81 w (Gcm.unlock (Aes.keys key) nonce aside text) e w' := by
  have Hn := hd hn
  have Hkl := hd hkl
  clear hn hkl
  obtain ⟨L, HL⟩ : ∃ l, Hd (Gcm.unlock (Aes.keys key) nonce aside text = l) := ⟨_, ⟨rfl⟩⟩
  rw [HL.out]
  have hB1 := ((Below.refl w.heap.size w).alloc (Nat.le_refl _) (.cells (arr key) 87)).alloc (by simp) (.cells (arr nonce) 27)
  have hS0 : Og w 87 key nonce D p aside E m text ((w.alloc (.cells (arr key) 87)).alloc (.cells (arr nonce) 27)) := ⟨(Blk.nu rfl).alloc _, Blk.nu (by simp), ha.onward hB1, ht.onward hB1, hB1⟩
  go_enter Tryd.func35, Tryd.ntmps35
  go_wp2
  refine p_start (Og w 87 key nonce D p aside E m text) (by kernel_rfl) (hS0.next (Below.refl _ _).drew) ?_
  clear hS0 hB1
  refine p_take 0 (o := _) rfl (by kernel_rfl) (by kernel_rfl) (by kernel_rfl) (wanted_plain rfl) (.slice (some ⟨w.heap.size, 0, none⟩) 16 16) (fun _ _ _ h => h) (fun W hW => run_slice16 (by rfl) w.heap.size (by simp [Act.eval])) ?_
  simp only [Act.put, List.getElem_toArray, List.getElem_cons_succ, List.getElem_cons_zero, List.setIfInBounds_toArray, List.set_cons_zero, List.set_cons_succ]
  refine p_take 1 (o := _) rfl (by kernel_rfl) (by kernel_rfl) (by kernel_rfl) (wanted_plain rfl) (.agg (arr nonce)) (fun _ _ _ h => h) (fun W hW => run_load_arr (by rfl) (by simp [Act.eval]) ty12 nonce Hn.out hW.bn.cells_arr) ?_
  simp only [Act.put, List.getElem_toArray, List.getElem_cons_succ, List.getElem_cons_zero, List.setIfInBounds_toArray, List.set_cons_zero, List.set_cons_succ]
  refine p_take 2 (o := _) rfl (by kernel_rfl) (by kernel_rfl) (by kernel_rfl) (wanted_plain rfl) (.slice D p q) (fun _ _ _ h => h) (fun W hW => run_move (by rfl) (by simp [Act.eval]) W) ?_
  simp only [Act.put, List.getElem_toArray, List.getElem_cons_succ, List.getElem_cons_zero, List.setIfInBounds_toArray, List.set_cons_zero, List.set_cons_succ]
  refine p_take 3 (o := _) rfl (by kernel_rfl) (by kernel_rfl) (by kernel_rfl) (wanted_plain rfl) (.slice E m d) (fun _ _ _ h => h) (fun W hW => run_move (by rfl) (by simp [Act.eval]) W) ?_
  simp only [Act.put, List.getElem_toArray, List.getElem_cons_succ, List.getElem_cons_zero, List.setIfInBounds_toArray, List.set_cons_zero, List.set_cons_succ]
  refine p_one 4 (by kernel_rfl) (fun W hW _ => ?_)
  refine op_call (o := _) rfl (wanted_plain rfl) 36 _ _ rfl #[.slice (some ⟨w.heap.size, 0, none⟩) 16 16, .agg (arr nonce), .slice D p q, .slice E m d] (by simp [Act.eval]) (enterS_gopen _) ?_
  refine (open_made (some ⟨w.heap.size, 0, none⟩) 16 16 key nonce Hn.out D p q aside E m d text W (Cha.blk_reads hW.bk Hkl.out hW.bk.lt) (.inl rfl) hW.ra hpq (by omega) hW.rt hmd (by omega)).mono ?_
  intro e W6 hO
  rw [HL.out] at hO
  cases L with
  | none =>
    obtain ⟨rfl, hE⟩ := hO
    refine ⟨_, rfl, Next.mk (fun W => Og w 87 key nonce D p aside E m text W ∧ True) (fun _ => True) (fun _ h => h.1) ⟨hW.next hE, trivial⟩ trivial ?_⟩
    clear hE hW
    simp only [Act.put, List.getElem_toArray, List.getElem_cons_succ, List.getElem_cons_zero, List.setIfInBounds_toArray, List.set_cons_zero, List.set_cons_succ]
    refine p_take 5 (o := _) rfl (by kernel_rfl) (by kernel_rfl) (by kernel_rfl) (wanted_plain rfl) (.slice none 0 0) (fun _ _ _ h => h) (fun W hW => run_extract (by rfl) #[.slice none 0 0, .int .i64 81] (.slice none 0 0) (by simp [Act.eval]) (by rfl)) ?_
    simp only [Act.put, List.getElem_toArray, List.getElem_cons_succ, List.getElem_cons_zero, List.setIfInBounds_toArray, List.set_cons_zero, List.set_cons_succ]
    refine p_take 6 (o := _) rfl (by kernel_rfl) (by kernel_rfl) (by kernel_rfl) (wanted_plain rfl) (.int .i64 81) (fun _ _ _ h => h) (fun W hW => run_extract (by rfl) #[.slice none 0 0, .int .i64 81] (.int .i64 81) (by simp [Act.eval]) (by rfl)) ?_
    simp only [Act.put, List.getElem_toArray, List.getElem_cons_succ, List.getElem_cons_zero, List.setIfInBounds_toArray, List.set_cons_zero, List.set_cons_succ]
    refine p_take 7 (o := _) rfl (by kernel_rfl) (by kernel_rfl) (by kernel_rfl) (wanted_plain rfl) (.slice none 0 0) (fun _ _ _ h => h) (fun W hW => run_assign (by rfl) (by simp [Act.eval]) W) ?_
    simp only [Act.put, List.getElem_toArray, List.getElem_cons_succ, List.getElem_cons_zero, List.setIfInBounds_toArray, List.set_cons_zero, List.set_cons_succ]
    refine p_take 8 (o := _) rfl (by kernel_rfl) (by kernel_rfl) (by kernel_rfl) (wanted_plain rfl) (.int .i64 81) (fun _ _ _ h => h) (fun W hW => run_assign (by rfl) (by simp [Act.eval]) W) ?_
    simp only [Act.put, List.getElem_toArray, List.getElem_cons_succ, List.getElem_cons_zero, List.setIfInBounds_toArray, List.set_cons_zero, List.set_cons_succ]
    refine (show ∀ n, wpAnyV _ _ _ _ _ _ n _ _ _ from fun n => p_done (by kernel_rfl) (fun W1 H => ?_) n) _
    go_wp2
    go_ret2
    exact ⟨rfl, H.1.old⟩
  | some l =>
    obtain ⟨v, rfl, own, hE⟩ := hO
    have own := own.lower hW.old.size
    refine ⟨_, rfl, Next.mk (fun W => Og w 87 key nonce D p aside E m text W ∧ OwnB W w.heap.size v l) (fun _ => True) (fun _ h => h.1) ⟨hW.next hE, own⟩ trivial ?_⟩
    clear hE hW
    simp only [Act.put, List.getElem_toArray, List.getElem_cons_succ, List.getElem_cons_zero, List.setIfInBounds_toArray, List.set_cons_zero, List.set_cons_succ]
    refine p_take 5 (o := _) rfl (by kernel_rfl) (by kernel_rfl) (by kernel_rfl) (wanted_plain rfl) (v) (fun _ _ _ h => h) (fun W hW => run_extract (by rfl) #[v, .int .i64 0] (v) (by simp [Act.eval]) (by rfl)) ?_
    simp only [Act.put, List.getElem_toArray, List.getElem_cons_succ, List.getElem_cons_zero, List.setIfInBounds_toArray, List.set_cons_zero, List.set_cons_succ]
    refine p_take 6 (o := _) rfl (by kernel_rfl) (by kernel_rfl) (by kernel_rfl) (wanted_plain rfl) (.int .i64 0) (fun _ _ _ h => h) (fun W hW => run_extract (by rfl) #[v, .int .i64 0] (.int .i64 0) (by simp [Act.eval]) (by rfl)) ?_
    simp only [Act.put, List.getElem_toArray, List.getElem_cons_succ, List.getElem_cons_zero, List.setIfInBounds_toArray, List.set_cons_zero, List.set_cons_succ]
    refine p_take 7 (o := _) rfl (by kernel_rfl) (by kernel_rfl) (by kernel_rfl) (wanted_plain rfl) (v) (fun _ _ _ h => h) (fun W hW => run_assign (by rfl) (by simp [Act.eval]) W) ?_
    simp only [Act.put, List.getElem_toArray, List.getElem_cons_succ, List.getElem_cons_zero, List.setIfInBounds_toArray, List.set_cons_zero, List.set_cons_succ]
    refine p_take 8 (o := _) rfl (by kernel_rfl) (by kernel_rfl) (by kernel_rfl) (wanted_plain rfl) (.int .i64 0) (fun _ _ _ h => h) (fun W hW => run_assign (by rfl) (by simp [Act.eval]) W) ?_
    simp only [Act.put, List.getElem_toArray, List.getElem_cons_succ, List.getElem_cons_zero, List.setIfInBounds_toArray, List.set_cons_zero, List.set_cons_succ]
    refine (show ∀ n, wpAnyV _ _ _ _ _ _ n _ _ _ from fun n => p_done (by kernel_rfl) (fun W1 H => ?_) n) _
    go_wp2
    go_ret2
    exact ⟨v, rfl, H.2, H.1.old⟩
set_option maxHeartbeats 2000000 in
set_option maxRecDepth 100000 in
theorem of4_any (key nonce : List UInt8) (hkl : key.length = 32) (hn : nonce.length = 12) (D : Option Addr) (p q : Nat) (aside : List UInt8) (E : Option Addr) (m d : Nat) (text : List UInt8) (w : World)
    (ha : ReadsB w w.heap.size D p aside) (hpq : p ≤ q) (ht : ReadsB w w.heap.size E m text) (hmd : m ≤ d) (hs : p + m ≤ 140737488355200) :
    Calls Tryd.prog 38 #[.agg (arr key), .agg (arr nonce), .slice D p q, .slice E m d] w fun e w' => OpenedE 81 w (Gcm.unlock (Aes.keys key) nonce aside text) e w' := by
  have Hn := hd hn
  have Hkl := hd hkl
  clear hn hkl
  obtain ⟨L, HL⟩ : ∃ l, Hd (Gcm.unlock (Aes.keys key) nonce aside text = l) := ⟨_, ⟨rfl⟩⟩
  rw [HL.out]
  have hB1 := ((Below.refl w.heap.size w).alloc (Nat.le_refl _) (.cells (arr key) 23)).alloc (by simp) (.cells (arr nonce) 27)
  have hS0 : Og w 23 key nonce D p aside E m text ((w.alloc (.cells (arr key) 23)).alloc (.cells (arr nonce) 27)) := ⟨(Blk.nu rfl).alloc _, Blk.nu (by simp), ha.onward hB1, ht.onward hB1, hB1⟩
  go_enter Tryd.func38, Tryd.ntmps38
  go_wp2
  refine p_start (Og w 23 key nonce D p aside E m text) (by kernel_rfl) (hS0.next (Below.refl _ _).drew) ?_
  clear hS0 hB1
  refine p_take 0 (o := _) rfl (by kernel_rfl) (by kernel_rfl) (by kernel_rfl) (wanted_plain rfl) (.slice (some ⟨w.heap.size, 0, none⟩) 32 32) (fun _ _ _ h => h) (fun W hW => Cha.run_slice32 (by rfl) w.heap.size (by simp [Act.eval])) ?_
  simp only [Act.put, List.getElem_toArray, List.getElem_cons_succ, List.getElem_cons_zero, List.setIfInBounds_toArray, List.set_cons_zero, List.set_cons_succ]
  refine p_take 1 (o := _) rfl (by kernel_rfl) (by kernel_rfl) (by kernel_rfl) (wanted_plain rfl) (.agg (arr nonce)) (fun _ _ _ h => h) (fun W hW => run_load_arr (by rfl) (by simp [Act.eval]) ty12 nonce Hn.out hW.bn.cells_arr) ?_
  simp only [Act.put, List.getElem_toArray, List.getElem_cons_succ, List.getElem_cons_zero, List.setIfInBounds_toArray, List.set_cons_zero, List.set_cons_succ]
  refine p_take 2 (o := _) rfl (by kernel_rfl) (by kernel_rfl) (by kernel_rfl) (wanted_plain rfl) (.slice D p q) (fun _ _ _ h => h) (fun W hW => run_move (by rfl) (by simp [Act.eval]) W) ?_
  simp only [Act.put, List.getElem_toArray, List.getElem_cons_succ, List.getElem_cons_zero, List.setIfInBounds_toArray, List.set_cons_zero, List.set_cons_succ]
  refine p_take 3 (o := _) rfl (by kernel_rfl) (by kernel_rfl) (by kernel_rfl) (wanted_plain rfl) (.slice E m d) (fun _ _ _ h => h) (fun W hW => run_move (by rfl) (by simp [Act.eval]) W) ?_
  simp only [Act.put, List.getElem_toArray, List.getElem_cons_succ, List.getElem_cons_zero, List.setIfInBounds_toArray, List.set_cons_zero, List.set_cons_succ]
  refine p_one 4 (by kernel_rfl) (fun W hW _ => ?_)
  refine op_call (o := _) rfl (wanted_plain rfl) 36 _ _ rfl #[.slice (some ⟨w.heap.size, 0, none⟩) 32 32, .agg (arr nonce), .slice D p q, .slice E m d] (by simp [Act.eval]) (enterS_gopen _) ?_
  refine (open_made (some ⟨w.heap.size, 0, none⟩) 32 32 key nonce Hn.out D p q aside E m d text W (Cha.blk_reads hW.bk Hkl.out hW.bk.lt) (.inr rfl) hW.ra hpq (by omega) hW.rt hmd (by omega)).mono ?_
  intro e W6 hO
  rw [HL.out] at hO
  cases L with
  | none =>
    obtain ⟨rfl, hE⟩ := hO
    refine ⟨_, rfl, Next.mk (fun W => Og w 23 key nonce D p aside E m text W ∧ True) (fun _ => True) (fun _ h => h.1) ⟨hW.next hE, trivial⟩ trivial ?_⟩
    clear hE hW
    simp only [Act.put, List.getElem_toArray, List.getElem_cons_succ, List.getElem_cons_zero, List.setIfInBounds_toArray, List.set_cons_zero, List.set_cons_succ]
    refine p_take 5 (o := _) rfl (by kernel_rfl) (by kernel_rfl) (by kernel_rfl) (wanted_plain rfl) (.slice none 0 0) (fun _ _ _ h => h) (fun W hW => run_extract (by rfl) #[.slice none 0 0, .int .i64 81] (.slice none 0 0) (by simp [Act.eval]) (by rfl)) ?_
    simp only [Act.put, List.getElem_toArray, List.getElem_cons_succ, List.getElem_cons_zero, List.setIfInBounds_toArray, List.set_cons_zero, List.set_cons_succ]
    refine p_take 6 (o := _) rfl (by kernel_rfl) (by kernel_rfl) (by kernel_rfl) (wanted_plain rfl) (.int .i64 81) (fun _ _ _ h => h) (fun W hW => run_extract (by rfl) #[.slice none 0 0, .int .i64 81] (.int .i64 81) (by simp [Act.eval]) (by rfl)) ?_
    simp only [Act.put, List.getElem_toArray, List.getElem_cons_succ, List.getElem_cons_zero, List.setIfInBounds_toArray, List.set_cons_zero, List.set_cons_succ]
    refine p_take 7 (o := _) rfl (by kernel_rfl) (by kernel_rfl) (by kernel_rfl) (wanted_plain rfl) (.slice none 0 0) (fun _ _ _ h => h) (fun W hW => run_assign (by rfl) (by simp [Act.eval]) W) ?_
    simp only [Act.put, List.getElem_toArray, List.getElem_cons_succ, List.getElem_cons_zero, List.setIfInBounds_toArray, List.set_cons_zero, List.set_cons_succ]
    refine p_take 8 (o := _) rfl (by kernel_rfl) (by kernel_rfl) (by kernel_rfl) (wanted_plain rfl) (.int .i64 81) (fun _ _ _ h => h) (fun W hW => run_assign (by rfl) (by simp [Act.eval]) W) ?_
    simp only [Act.put, List.getElem_toArray, List.getElem_cons_succ, List.getElem_cons_zero, List.setIfInBounds_toArray, List.set_cons_zero, List.set_cons_succ]
    refine (show ∀ n, wpAnyV _ _ _ _ _ _ n _ _ _ from fun n => p_done (by kernel_rfl) (fun W1 H => ?_) n) _
    go_wp2
    go_ret2
    exact ⟨rfl, H.1.old⟩
  | some l =>
    obtain ⟨v, rfl, own, hE⟩ := hO
    have own := own.lower hW.old.size
    refine ⟨_, rfl, Next.mk (fun W => Og w 23 key nonce D p aside E m text W ∧ OwnB W w.heap.size v l) (fun _ => True) (fun _ h => h.1) ⟨hW.next hE, own⟩ trivial ?_⟩
    clear hE hW
    simp only [Act.put, List.getElem_toArray, List.getElem_cons_succ, List.getElem_cons_zero, List.setIfInBounds_toArray, List.set_cons_zero, List.set_cons_succ]
    refine p_take 5 (o := _) rfl (by kernel_rfl) (by kernel_rfl) (by kernel_rfl) (wanted_plain rfl) (v) (fun _ _ _ h => h) (fun W hW => run_extract (by rfl) #[v, .int .i64 0] (v) (by simp [Act.eval]) (by rfl)) ?_
    simp only [Act.put, List.getElem_toArray, List.getElem_cons_succ, List.getElem_cons_zero, List.setIfInBounds_toArray, List.set_cons_zero, List.set_cons_succ]
    refine p_take 6 (o := _) rfl (by kernel_rfl) (by kernel_rfl) (by kernel_rfl) (wanted_plain rfl) (.int .i64 0) (fun _ _ _ h => h) (fun W hW => run_extract (by rfl) #[v, .int .i64 0] (.int .i64 0) (by simp [Act.eval]) (by rfl)) ?_
    simp only [Act.put, List.getElem_toArray, List.getElem_cons_succ, List.getElem_cons_zero, List.setIfInBounds_toArray, List.set_cons_zero, List.set_cons_succ]
    refine p_take 7 (o := _) rfl (by kernel_rfl) (by kernel_rfl) (by kernel_rfl) (wanted_plain rfl) (v) (fun _ _ _ h => h) (fun W hW => run_assign (by rfl) (by simp [Act.eval]) W) ?_
    simp only [Act.put, List.getElem_toArray, List.getElem_cons_succ, List.getElem_cons_zero, List.setIfInBounds_toArray, List.set_cons_zero, List.set_cons_succ]
    refine p_take 8 (o := _) rfl (by kernel_rfl) (by kernel_rfl) (by kernel_rfl) (wanted_plain rfl) (.int .i64 0) (fun _ _ _ h => h) (fun W hW => run_assign (by rfl) (by simp [Act.eval]) W) ?_
    simp only [Act.put, List.getElem_toArray, List.getElem_cons_succ, List.getElem_cons_zero, List.setIfInBounds_toArray, List.set_cons_zero, List.set_cons_succ]
    refine (show ∀ n, wpAnyV _ _ _ _ _ _ n _ _ _ from fun n => p_done (by kernel_rfl) (fun W1 H => ?_) n) _
    go_wp2
    go_ret2
    exact ⟨v, rfl, H.2, H.1.old⟩
theorem chaSeal_any (key nonce : List UInt8) (hkl : key.length = 32) (hn : nonce.length = 12) (D : Option Addr) (p q : Nat) (aside : List UInt8) (E : Option Addr) (m d : Nat) (text : List UInt8) (w : World)
    (ha : ReadsB w w.heap.size D p aside) (hpq : p ≤ q) (ht : ReadsB w w.heap.size E m text) (hmd : m ≤ d) (hs : p + m ≤ 140737488355200) :
    Calls Tryd.prog 39 #[.agg (arr key), .agg (arr nonce), .slice D p q, .slice E m d] w fun e w' => ∃ v, e = .returned v ∧ OwnB w' w.heap.size v (Cha.lock key nonce aside text) ∧ Below w.heap.size w w' :=
  Cha.seal_any key nonce hkl hn D p q aside E m d text w ha ht hs
theorem chaOpen_any (key nonce : List UInt8) (hkl : key.length = 32) (hn : nonce.length = 12) (D : Option Addr) (p q : Nat) (aside : List UInt8) (E : Option Addr) (m d : Nat) (text : List UInt8) (w : World)
    (ha : ReadsB w w.heap.size D p aside) (hpq : p ≤ q) (ht : ReadsB w w.heap.size E m text) (hmd : m ≤ d) (hs : p + m ≤ 140737488355200) :
    Calls Tryd.prog 40 #[.agg (arr key), .agg (arr nonce), .slice D p q, .slice E m d] w fun e w' => OpenedE 91 w (Cha.unlock key nonce aside text) e w' :=
  (Cha.open_any key nonce hkl hn D p q aside E m d text w ha ht hmd hs).mono fun _ _ h => h.low (Below.refl _ _)
theorem field1_128 (z : Nat) (w : World) : (Instr.fieldAt 91 (.pointer (some ⟨z, 0, none⟩)) 1).run Tryd.prog w = .ok (.pointer (some ⟨z, 1, none⟩)) w := by kernel_rfl
theorem field0_256 (z : Nat) (w : World) : (Instr.fieldAt 95 (.pointer (some ⟨z, 0, none⟩)) 0).run Tryd.prog w = .ok (.pointer (some ⟨z, 0, none⟩)) w := by kernel_rfl
theorem field1_256 (z : Nat) (w : World) : (Instr.fieldAt 95 (.pointer (some ⟨z, 0, none⟩)) 1).run Tryd.prog w = .ok (.pointer (some ⟨z, 1, none⟩)) w := by kernel_rfl
theorem run_loadVar_f32 (ad : Addr) (v : Value) (w : World) (h : w.cell? ad = some v) : (loadVar 92 ad).run Tryd.prog w = .ok v w := by
  simp [loadVar, go_sem, h]
theorem run_loadVar_g16 (ad : Addr) (v : Value) (w : World) (h : w.cell? ad = some v) : (loadVar 89 ad).run Tryd.prog w = .ok v w := by
  simp [loadVar, go_sem, h]
theorem run_loadVar_g32 (ad : Addr) (v : Value) (w : World) (h : w.cell? ad = some v) : (loadVar 93 ad).run Tryd.prog w = .ok v w := by
  simp [loadVar, go_sem, h]
theorem agg_l256 : AggT Tryd.prog 95 2 := ⟨by kernel_rfl, by kernel_rfl⟩
theorem enter_key256 (args : Array Value) (w : World) : (callFunc 109 args).run Tryd.prog w = .ok (.enter 109 args) w := by kernel_rfl
theorem enterS_of2 (args : Array Value) (w : World) : (callFunc 35 args).run Tryd.prog w = .ok (.enter 35 args) w := by kernel_rfl
theorem enterS_of3 (args : Array Value) (w : World) : (callFunc 37 args).run Tryd.prog w = .ok (.enter 37 args) w := by kernel_rfl
theorem enterS_of4 (args : Array Value) (w : World) : (callFunc 38 args).run Tryd.prog w = .ok (.enter 38 args) w := by kernel_rfl
theorem enterS_Seal (args : Array Value) (w : World) : (callFunc 39 args).run Tryd.prog w = .ok (.enter 39 args) w := by kernel_rfl
theorem enterS_Open (args : Array Value) (w : World) : (callFunc 40 args).run Tryd.prog w = .ok (.enter 40 args) w := by kernel_rfl
theorem enterS_of1 (args : Array Value) (w : World) : (callFunc 33 args).run Tryd.prog w = .ok (.enter 33 args) w := by kernel_rfl
set_option maxHeartbeats 4000000 in
set_option maxRecDepth 100000 in
theorem sealed_128 (A : Option Addr) (c : Nat) (key nonce : List UInt8) (hn : nonce.length = 12) (D : Option Addr) (p q : Nat) (aside : List UInt8) (E : Option Addr) (m d : Nat) (text : List UInt8) (w : World) (hr : ReadsB w w.heap.size A 16 key)
    (ha : ReadsB w w.heap.size D p aside) (hpq : p ≤ q) (ht : ReadsB w w.heap.size E m text) (hmd : m ≤ d) (hs : p + m ≤ 140737488355200) :
    Calls Tryd.prog 106 #[.agg Suite.c128, .slice A 16 c, .agg (arr nonce), .slice D p q, .slice E m d] w fun e w' => ∃ v, e = .returned v ∧ OwnB w' w.heap.size v (Gcm.lock (Aes.keys key) nonce aside text) ∧ Below w.heap.size w w' := by
  have Hn := hd hn
  clear hn
  obtain ⟨L, HL⟩ : ∃ l, Hd (Gcm.lock (Aes.keys key) nonce aside text = l) := ⟨_, ⟨rfl⟩⟩
  rw [HL.out]
  have hS0 : LkS w w.heap.size Suite.c128 91 (w.heap.size + 1) nonce A 16 key D p aside E m text ((w.alloc (.cells Suite.c128 91)).alloc (.cells (arr nonce) 27)) := by
    have hB := ((Below.refl w.heap.size w).alloc (Nat.le_refl _) (.cells Suite.c128 91)).alloc (by simp) (.cells (arr nonce) 27)
    exact ⟨(Blk.nu rfl).alloc _, Blk.nu (by simp), hr.onward hB, ha.onward hB, ht.onward hB, hB⟩
  go_enter Tryd.func106, Tryd.ntmps106
  go_wp2
  refine p_start (LkS w w.heap.size Suite.c128 91 (w.heap.size + 1) nonce A 16 key D p aside E m text) (by kernel_rfl) hS0.drew ?_
  clear hS0
  refine p_take 0 (o := _) rfl (by kernel_rfl) (by kernel_rfl) (by kernel_rfl) (wanted_plain rfl) (.pointer (some ⟨w.heap.size, 0, none⟩)) (fun _ _ _ h => h) (fun W hW => run_fieldAddrS (by rfl) (by simp [Act.eval]) (field0_128 _)) ?_
  simp only [Act.put, List.getElem_toArray, List.getElem_cons_succ, List.getElem_cons_zero, List.setIfInBounds_toArray, List.set_cons_zero, List.set_cons_succ]
  refine p_take 1 (o := _) rfl (by kernel_rfl) (by kernel_rfl) (by kernel_rfl) (wanted_plain rfl) (.func (.func 33) #[] #[]) (fun _ _ _ h => h) (fun W hW => run_execOp_load (by rfl) (by simp [Act.eval]) (run_loadVar_f _ _ W ((LkS.lk hW).cell 0))) ?_
  simp only [Act.put, List.getElem_toArray, List.getElem_cons_succ, List.getElem_cons_zero, List.setIfInBounds_toArray, List.set_cons_zero, List.set_cons_succ]
  refine p_take 2 (o := _) rfl (by kernel_rfl) (by kernel_rfl) (by kernel_rfl) (wanted_plain rfl) (.agg Suite.c128) (fun _ _ _ h => h) (fun W hW => run_execOp_load (by rfl) (by simp [Act.eval]) (run_loadVar_cells agg_l128 ⟨w.heap.size, 0, none⟩ (Suite.c128).toList rfl ((LkS.lk hW).cells_at 0 _ (fun j v hv => by rw [Nat.zero_add, ← Array.getElem?_toList]; exact hv)).is)) ?_
  simp only [Act.put, List.getElem_toArray, List.getElem_cons_succ, List.getElem_cons_zero, List.setIfInBounds_toArray, List.set_cons_zero, List.set_cons_succ]
  refine p_take 3 (o := _) rfl (by kernel_rfl) (by kernel_rfl) (by kernel_rfl) (wanted_plain rfl) (.slice A 16 c) (fun _ _ _ h => h) (fun W hW => run_move (by rfl) (by simp [Act.eval]) W) ?_
  simp only [Act.put, List.getElem_toArray, List.getElem_cons_succ, List.getElem_cons_zero, List.setIfInBounds_toArray, List.set_cons_zero, List.set_cons_succ]
  refine p_take 5 (o := _) rfl (by kernel_rfl) (by kernel_rfl) (by kernel_rfl) (wanted_plain rfl) (.agg (arr nonce)) (fun _ _ _ h => h) (fun W hW => run_load_arr (by rfl) (by simp [Act.eval]) ty12 nonce Hn.out (LkS.at_ hW).cells_arr) ?_
  simp only [Act.put, List.getElem_toArray, List.getElem_cons_succ, List.getElem_cons_zero, List.setIfInBounds_toArray, List.set_cons_zero, List.set_cons_succ]
  refine p_take 6 (o := _) rfl (by kernel_rfl) (by kernel_rfl) (by kernel_rfl) (wanted_plain rfl) (.slice D p q) (fun _ _ _ h => h) (fun W hW => run_move (by rfl) (by simp [Act.eval]) W) ?_
  simp only [Act.put, List.getElem_toArray, List.getElem_cons_succ, List.getElem_cons_zero, List.setIfInBounds_toArray, List.set_cons_zero, List.set_cons_succ]
  refine p_take 7 (o := _) rfl (by kernel_rfl) (by kernel_rfl) (by kernel_rfl) (wanted_plain rfl) (.slice E m d) (fun _ _ _ h => h) (fun W hW => run_move (by rfl) (by simp [Act.eval]) W) ?_
  simp only [Act.put, List.getElem_toArray, List.getElem_cons_succ, List.getElem_cons_zero, List.setIfInBounds_toArray, List.set_cons_zero, List.set_cons_succ]
  refine p_one 4 (by kernel_rfl) (fun W hW _ => ?_)
  refine op_call (o := _) rfl (wanted_plain rfl) 108 _ _ rfl #[.agg Suite.c128, .slice A 16 c] (by simp [Act.eval]) (enter_key128 _) ?_
  refine (key128_any Suite.c128 A c key W hW.rk).mono ?_
  rintro e W5 ⟨rfl, hE⟩
  refine ⟨_, rfl, Next.mk (LkS w w.heap.size Suite.c128 91 (w.heap.size + 1) nonce A 16 key D p aside E m text) (fun _ => True) (fun _ h => h) (hW.next hE) trivial ?_⟩
  clear hE hW
  simp only [Act.put, List.getElem_toArray, List.getElem_cons_succ, List.getElem_cons_zero, List.setIfInBounds_toArray, List.set_cons_zero, List.set_cons_succ]
  refine p_one 8 (by kernel_rfl) (fun W hW _ => ?_)
  refine op_callV (o := _) rfl (wanted_plain rfl) _ _ _ rfl 33 #[] #[.agg (arr key), .agg (arr nonce), .slice D p q, .slice E m d] (by simp [Act.eval]) (by simp [Act.eval]) (enterS_of1 _) ?_
  refine (of1_any key nonce hr.len Hn.out D p q aside E m d text W hW.ra hpq (by omega) hW.rt (by omega)).mono ?_
  rintro e W6 ⟨v, rfl, own, hE⟩
  rw [HL.out] at own
  have own := own.lower hW.old.size
  refine ⟨_, rfl, Next.mk (fun W => LkS w w.heap.size Suite.c128 91 (w.heap.size + 1) nonce A 16 key D p aside E m text W ∧ OwnB W w.heap.size v L) (fun _ => True) (fun _ h => h.1) ⟨hW.next hE, own⟩ trivial ?_⟩
  clear hE hW own
  simp only [Act.put, List.getElem_toArray, List.getElem_cons_succ, List.getElem_cons_zero, List.setIfInBounds_toArray, List.set_cons_zero, List.set_cons_succ]
  refine p_take 9 (o := _) rfl (by kernel_rfl) (by kernel_rfl) (by kernel_rfl) (wanted_plain rfl) (v) (fun _ _ _ h => h) (fun W hW => run_assign (by rfl) (by simp [Act.eval]) W) ?_
  simp only [Act.put, List.getElem_toArray, List.getElem_cons_succ, List.getElem_cons_zero, List.setIfInBounds_toArray, List.set_cons_zero, List.set_cons_succ]
  refine (show ∀ n, wpAnyV _ _ _ _ _ _ n _ _ _ from fun n => p_done (by kernel_rfl) (fun W1 H => ?_) n) _
  go_wp2
  go_ret
  exact ⟨v, rfl, H.2, H.1.old⟩
set_option maxHeartbeats 4000000 in
set_option maxRecDepth 100000 in
theorem opened_128 (A : Option Addr) (c : Nat) (key nonce : List UInt8) (hn : nonce.length = 12) (D : Option Addr) (p q : Nat) (aside : List UInt8) (E : Option Addr) (m d : Nat) (text : List UInt8) (w : World) (hr : ReadsB w w.heap.size A 16 key)
    (ha : ReadsB w w.heap.size D p aside) (hpq : p ≤ q) (ht : ReadsB w w.heap.size E m text) (hmd : m ≤ d) (hs : p + m ≤ 140737488355200) :
    Calls Tryd.prog 105 #[.agg Suite.c128, .slice A 16 c, .agg (arr nonce), .slice D p q, .slice E m d] w fun e w' => OpenedE 81 w (Gcm.unlock (Aes.keys key) nonce aside text) e w' := by
  have Hn := hd hn
  clear hn
  obtain ⟨L, HL⟩ : ∃ l, Hd (Gcm.unlock (Aes.keys key) nonce aside text = l) := ⟨_, ⟨rfl⟩⟩
  rw [HL.out]
  have hS0 : LkS w w.heap.size Suite.c128 91 (w.heap.size + 1) nonce A 16 key D p aside E m text ((w.alloc (.cells Suite.c128 91)).alloc (.cells (arr nonce) 27)) := by
    have hB := ((Below.refl w.heap.size w).alloc (Nat.le_refl _) (.cells Suite.c128 91)).alloc (by simp) (.cells (arr nonce) 27)
    exact ⟨(Blk.nu rfl).alloc _, Blk.nu (by simp), hr.onward hB, ha.onward hB, ht.onward hB, hB⟩
  go_enter Tryd.func105, Tryd.ntmps105
  go_wp2
  refine p_start (LkS w w.heap.size Suite.c128 91 (w.heap.size + 1) nonce A 16 key D p aside E m text) (by kernel_rfl) hS0.drew ?_
  clear hS0
  refine p_take 0 (o := _) rfl (by kernel_rfl) (by kernel_rfl) (by kernel_rfl) (wanted_plain rfl) (.pointer (some ⟨w.heap.size, 1, none⟩)) (fun _ _ _ h => h) (fun W hW => run_fieldAddrS (by rfl) (by simp [Act.eval]) (field1_128 _)) ?_
  simp only [Act.put, List.getElem_toArray, List.getElem_cons_succ, List.getElem_cons_zero, List.setIfInBounds_toArray, List.set_cons_zero, List.set_cons_succ]
  refine p_take 1 (o := _) rfl (by kernel_rfl) (by kernel_rfl) (by kernel_rfl) (wanted_plain rfl) (.func (.func 35) #[] #[]) (fun _ _ _ h => h) (fun W hW => run_execOp_load (by rfl) (by simp [Act.eval]) (run_loadVar_g16 _ _ W ((LkS.lk hW).cell 1))) ?_
  simp only [Act.put, List.getElem_toArray, List.getElem_cons_succ, List.getElem_cons_zero, List.setIfInBounds_toArray, List.set_cons_zero, List.set_cons_succ]
  refine p_take 2 (o := _) rfl (by kernel_rfl) (by kernel_rfl) (by kernel_rfl) (wanted_plain rfl) (.agg Suite.c128) (fun _ _ _ h => h) (fun W hW => run_execOp_load (by rfl) (by simp [Act.eval]) (run_loadVar_cells agg_l128 ⟨w.heap.size, 0, none⟩ (Suite.c128).toList rfl ((LkS.lk hW).cells_at 0 _ (fun j v hv => by rw [Nat.zero_add, ← Array.getElem?_toList]; exact hv)).is)) ?_
  simp only [Act.put, List.getElem_toArray, List.getElem_cons_succ, List.getElem_cons_zero, List.setIfInBounds_toArray, List.set_cons_zero, List.set_cons_succ]
  refine p_take 3 (o := _) rfl (by kernel_rfl) (by kernel_rfl) (by kernel_rfl) (wanted_plain rfl) (.slice A 16 c) (fun _ _ _ h => h) (fun W hW => run_move (by rfl) (by simp [Act.eval]) W) ?_
  simp only [Act.put, List.getElem_toArray, List.getElem_cons_succ, List.getElem_cons_zero, List.setIfInBounds_toArray, List.set_cons_zero, List.set_cons_succ]
  refine p_take 5 (o := _) rfl (by kernel_rfl) (by kernel_rfl) (by kernel_rfl) (wanted_plain rfl) (.agg (arr nonce)) (fun _ _ _ h => h) (fun W hW => run_load_arr (by rfl) (by simp [Act.eval]) ty12 nonce Hn.out (LkS.at_ hW).cells_arr) ?_
  simp only [Act.put, List.getElem_toArray, List.getElem_cons_succ, List.getElem_cons_zero, List.setIfInBounds_toArray, List.set_cons_zero, List.set_cons_succ]
  refine p_take 6 (o := _) rfl (by kernel_rfl) (by kernel_rfl) (by kernel_rfl) (wanted_plain rfl) (.slice D p q) (fun _ _ _ h => h) (fun W hW => run_move (by rfl) (by simp [Act.eval]) W) ?_
  simp only [Act.put, List.getElem_toArray, List.getElem_cons_succ, List.getElem_cons_zero, List.setIfInBounds_toArray, List.set_cons_zero, List.set_cons_succ]
  refine p_take 7 (o := _) rfl (by kernel_rfl) (by kernel_rfl) (by kernel_rfl) (wanted_plain rfl) (.slice E m d) (fun _ _ _ h => h) (fun W hW => run_move (by rfl) (by simp [Act.eval]) W) ?_
  simp only [Act.put, List.getElem_toArray, List.getElem_cons_succ, List.getElem_cons_zero, List.setIfInBounds_toArray, List.set_cons_zero, List.set_cons_succ]
  refine p_one 4 (by kernel_rfl) (fun W hW _ => ?_)
  refine op_call (o := _) rfl (wanted_plain rfl) 108 _ _ rfl #[.agg Suite.c128, .slice A 16 c] (by simp [Act.eval]) (enter_key128 _) ?_
  refine (key128_any Suite.c128 A c key W hW.rk).mono ?_
  rintro e W5 ⟨rfl, hE⟩
  refine ⟨_, rfl, Next.mk (LkS w w.heap.size Suite.c128 91 (w.heap.size + 1) nonce A 16 key D p aside E m text) (fun _ => True) (fun _ h => h) (hW.next hE) trivial ?_⟩
  clear hE hW
  simp only [Act.put, List.getElem_toArray, List.getElem_cons_succ, List.getElem_cons_zero, List.setIfInBounds_toArray, List.set_cons_zero, List.set_cons_succ]
  refine p_one 8 (by kernel_rfl) (fun W hW _ => ?_)
  refine op_callV (o := _) rfl (wanted_plain rfl) _ _ _ rfl 35 #[] #[.agg (arr key), .agg (arr nonce), .slice D p q, .slice E m d] (by simp [Act.eval]) (by simp [Act.eval]) (enterS_of2 _) ?_
  refine (of2_any key nonce hr.len Hn.out D p q aside E m d text W hW.ra hpq hW.rt hmd hs).mono ?_
  intro e W6 hO
  rw [HL.out] at hO
  cases L with
  | none =>
    obtain ⟨rfl, hE⟩ := hO
    refine ⟨_, rfl, Next.mk (fun W => LkS w w.heap.size Suite.c128 91 (w.heap.size + 1) nonce A 16 key D p aside E m text W ∧ True) (fun _ => True) (fun _ h => h.1) ⟨hW.next hE, trivial⟩ trivial ?_⟩
    clear hE hW
    simp only [Act.put, List.getElem_toArray, List.getElem_cons_succ, List.getElem_cons_zero, List.setIfInBounds_toArray, List.set_cons_zero, List.set_cons_succ]
    refine p_take 9 (o := _) rfl (by kernel_rfl) (by kernel_rfl) (by kernel_rfl) (wanted_plain rfl) (.slice none 0 0) (fun _ _ _ h => h) (fun W hW => run_extract (by rfl) #[.slice none 0 0, .int .i64 81] (.slice none 0 0) (by simp [Act.eval]) (by rfl)) ?_
    simp only [Act.put, List.getElem_toArray, List.getElem_cons_succ, List.getElem_cons_zero, List.setIfInBounds_toArray, List.set_cons_zero, List.set_cons_succ]
    refine p_take 10 (o := _) rfl (by kernel_rfl) (by kernel_rfl) (by kernel_rfl) (wanted_plain rfl) (.int .i64 81) (fun _ _ _ h => h) (fun W hW => run_extract (by rfl) #[.slice none 0 0, .int .i64 81] (.int .i64 81) (by simp [Act.eval]) (by rfl)) ?_
    simp only [Act.put, List.getElem_toArray, List.getElem_cons_succ, List.getElem_cons_zero, List.setIfInBounds_toArray, List.set_cons_zero, List.set_cons_succ]
    refine p_take 11 (o := _) rfl (by kernel_rfl) (by kernel_rfl) (by kernel_rfl) (wanted_plain rfl) (.slice none 0 0) (fun _ _ _ h => h) (fun W hW => run_assign (by rfl) (by simp [Act.eval]) W) ?_
    simp only [Act.put, List.getElem_toArray, List.getElem_cons_succ, List.getElem_cons_zero, List.setIfInBounds_toArray, List.set_cons_zero, List.set_cons_succ]
    refine p_take 12 (o := _) rfl (by kernel_rfl) (by kernel_rfl) (by kernel_rfl) (wanted_plain rfl) (.int .i64 81) (fun _ _ _ h => h) (fun W hW => run_assign (by rfl) (by simp [Act.eval]) W) ?_
    simp only [Act.put, List.getElem_toArray, List.getElem_cons_succ, List.getElem_cons_zero, List.setIfInBounds_toArray, List.set_cons_zero, List.set_cons_succ]
    refine (show ∀ n, wpAnyV _ _ _ _ _ _ n _ _ _ from fun n => p_done (by kernel_rfl) (fun W1 H => ?_) n) _
    go_wp2
    go_ret2
    exact ⟨rfl, H.1.old⟩
  | some l =>
    obtain ⟨v, rfl, own, hE⟩ := hO
    have own := own.lower hW.old.size
    refine ⟨_, rfl, Next.mk (fun W => LkS w w.heap.size Suite.c128 91 (w.heap.size + 1) nonce A 16 key D p aside E m text W ∧ OwnB W w.heap.size v l) (fun _ => True) (fun _ h => h.1) ⟨hW.next hE, own⟩ trivial ?_⟩
    clear hE hW
    simp only [Act.put, List.getElem_toArray, List.getElem_cons_succ, List.getElem_cons_zero, List.setIfInBounds_toArray, List.set_cons_zero, List.set_cons_succ]
    refine p_take 9 (o := _) rfl (by kernel_rfl) (by kernel_rfl) (by kernel_rfl) (wanted_plain rfl) (v) (fun _ _ _ h => h) (fun W hW => run_extract (by rfl) #[v, .int .i64 0] (v) (by simp [Act.eval]) (by rfl)) ?_
    simp only [Act.put, List.getElem_toArray, List.getElem_cons_succ, List.getElem_cons_zero, List.setIfInBounds_toArray, List.set_cons_zero, List.set_cons_succ]
    refine p_take 10 (o := _) rfl (by kernel_rfl) (by kernel_rfl) (by kernel_rfl) (wanted_plain rfl) (.int .i64 0) (fun _ _ _ h => h) (fun W hW => run_extract (by rfl) #[v, .int .i64 0] (.int .i64 0) (by simp [Act.eval]) (by rfl)) ?_
    simp only [Act.put, List.getElem_toArray, List.getElem_cons_succ, List.getElem_cons_zero, List.setIfInBounds_toArray, List.set_cons_zero, List.set_cons_succ]
    refine p_take 11 (o := _) rfl (by kernel_rfl) (by kernel_rfl) (by kernel_rfl) (wanted_plain rfl) (v) (fun _ _ _ h => h) (fun W hW => run_assign (by rfl) (by simp [Act.eval]) W) ?_
    simp only [Act.put, List.getElem_toArray, List.getElem_cons_succ, List.getElem_cons_zero, List.setIfInBounds_toArray, List.set_cons_zero, List.set_cons_succ]
    refine p_take 12 (o := _) rfl (by kernel_rfl) (by kernel_rfl) (by kernel_rfl) (wanted_plain rfl) (.int .i64 0) (fun _ _ _ h => h) (fun W hW => run_assign (by rfl) (by simp [Act.eval]) W) ?_
    simp only [Act.put, List.getElem_toArray, List.getElem_cons_succ, List.getElem_cons_zero, List.setIfInBounds_toArray, List.set_cons_zero, List.set_cons_succ]
    refine (show ∀ n, wpAnyV _ _ _ _ _ _ n _ _ _ from fun n => p_done (by kernel_rfl) (fun W1 H => ?_) n) _
    go_wp2
    go_ret2
    exact ⟨v, rfl, H.2, H.1.old⟩
set_option maxHeartbeats 4000000 in
set_option maxRecDepth 100000 in
theorem sealed_256 (A : Option Addr) (c : Nat) (key nonce : List UInt8) (hn : nonce.length = 12) (D : Option Addr) (p q : Nat) (aside : List UInt8) (E : Option Addr) (m d : Nat) (text : List UInt8) (w : World) (hr : ReadsB w w.heap.size A 32 key)
    (ha : ReadsB w w.heap.size D p aside) (hpq : p ≤ q) (ht : ReadsB w w.heap.size E m text) (hmd : m ≤ d) (hs : p + m ≤ 140737488355200) :
    Calls Tryd.prog 111 #[.agg Suite.c256, .slice A 32 c, .agg (arr nonce), .slice D p q, .slice E m d] w fun e w' => ∃ v, e = .returned v ∧ OwnB w' w.heap.size v (Gcm.lock (Aes.keys key) nonce aside text) ∧ Below w.heap.size w w' := by
  have Hn := hd hn
  clear hn
  obtain ⟨L, HL⟩ : ∃ l, Hd (Gcm.lock (Aes.keys key) nonce aside text = l) := ⟨_, ⟨rfl⟩⟩
  rw [HL.out]
  have hS0 : LkS w w.heap.size Suite.c256 95 (w.heap.size + 1) nonce A 32 key D p aside E m text ((w.alloc (.cells Suite.c256 95)).alloc (.cells (arr nonce) 27)) := by
    have hB := ((Below.refl w.heap.size w).alloc (Nat.le_refl _) (.cells Suite.c256 95)).alloc (by simp) (.cells (arr nonce) 27)
    exact ⟨(Blk.nu rfl).alloc _, Blk.nu (by simp), hr.onward hB, ha.onward hB, ht.onward hB, hB⟩
  go_enter Tryd.func111, Tryd.ntmps111
  go_wp2
  refine p_start (LkS w w.heap.size Suite.c256 95 (w.heap.size + 1) nonce A 32 key D p aside E m text) (by kernel_rfl) hS0.drew ?_
  clear hS0
  refine p_take 0 (o := _) rfl (by kernel_rfl) (by kernel_rfl) (by kernel_rfl) (wanted_plain rfl) (.pointer (some ⟨w.heap.size, 0, none⟩)) (fun _ _ _ h => h) (fun W hW => run_fieldAddrS (by rfl) (by simp [Act.eval]) (field0_256 _)) ?_
  simp only [Act.put, List.getElem_toArray, List.getElem_cons_succ, List.getElem_cons_zero, List.setIfInBounds_toArray, List.set_cons_zero, List.set_cons_succ]
  refine p_take 1 (o := _) rfl (by kernel_rfl) (by kernel_rfl) (by kernel_rfl) (wanted_plain rfl) (.func (.func 37) #[] #[]) (fun _ _ _ h => h) (fun W hW => run_execOp_load (by rfl) (by simp [Act.eval]) (run_loadVar_f32 _ _ W ((LkS.lk hW).cell 0))) ?_
  simp only [Act.put, List.getElem_toArray, List.getElem_cons_succ, List.getElem_cons_zero, List.setIfInBounds_toArray, List.set_cons_zero, List.set_cons_succ]
  refine p_take 2 (o := _) rfl (by kernel_rfl) (by kernel_rfl) (by kernel_rfl) (wanted_plain rfl) (.agg Suite.c256) (fun _ _ _ h => h) (fun W hW => run_execOp_load (by rfl) (by simp [Act.eval]) (run_loadVar_cells agg_l256 ⟨w.heap.size, 0, none⟩ (Suite.c256).toList rfl ((LkS.lk hW).cells_at 0 _ (fun j v hv => by rw [Nat.zero_add, ← Array.getElem?_toList]; exact hv)).is)) ?_
  simp only [Act.put, List.getElem_toArray, List.getElem_cons_succ, List.getElem_cons_zero, List.setIfInBounds_toArray, List.set_cons_zero, List.set_cons_succ]
  refine p_take 3 (o := _) rfl (by kernel_rfl) (by kernel_rfl) (by kernel_rfl) (wanted_plain rfl) (.slice A 32 c) (fun _ _ _ h => h) (fun W hW => run_move (by rfl) (by simp [Act.eval]) W) ?_
  simp only [Act.put, List.getElem_toArray, List.getElem_cons_succ, List.getElem_cons_zero, List.setIfInBounds_toArray, List.set_cons_zero, List.set_cons_succ]
  refine p_take 5 (o := _) rfl (by kernel_rfl) (by kernel_rfl) (by kernel_rfl) (wanted_plain rfl) (.agg (arr nonce)) (fun _ _ _ h => h) (fun W hW => run_load_arr (by rfl) (by simp [Act.eval]) ty12 nonce Hn.out (LkS.at_ hW).cells_arr) ?_
  simp only [Act.put, List.getElem_toArray, List.getElem_cons_succ, List.getElem_cons_zero, List.setIfInBounds_toArray, List.set_cons_zero, List.set_cons_succ]
  refine p_take 6 (o := _) rfl (by kernel_rfl) (by kernel_rfl) (by kernel_rfl) (wanted_plain rfl) (.slice D p q) (fun _ _ _ h => h) (fun W hW => run_move (by rfl) (by simp [Act.eval]) W) ?_
  simp only [Act.put, List.getElem_toArray, List.getElem_cons_succ, List.getElem_cons_zero, List.setIfInBounds_toArray, List.set_cons_zero, List.set_cons_succ]
  refine p_take 7 (o := _) rfl (by kernel_rfl) (by kernel_rfl) (by kernel_rfl) (wanted_plain rfl) (.slice E m d) (fun _ _ _ h => h) (fun W hW => run_move (by rfl) (by simp [Act.eval]) W) ?_
  simp only [Act.put, List.getElem_toArray, List.getElem_cons_succ, List.getElem_cons_zero, List.setIfInBounds_toArray, List.set_cons_zero, List.set_cons_succ]
  refine p_one 4 (by kernel_rfl) (fun W hW _ => ?_)
  refine op_call (o := _) rfl (wanted_plain rfl) 109 _ _ rfl #[.agg Suite.c256, .slice A 32 c] (by simp [Act.eval]) (enter_key256 _) ?_
  refine (key256_any Suite.c256 A c key W hW.rk).mono ?_
  rintro e W5 ⟨rfl, hE⟩
  refine ⟨_, rfl, Next.mk (LkS w w.heap.size Suite.c256 95 (w.heap.size + 1) nonce A 32 key D p aside E m text) (fun _ => True) (fun _ h => h) (hW.next hE) trivial ?_⟩
  clear hE hW
  simp only [Act.put, List.getElem_toArray, List.getElem_cons_succ, List.getElem_cons_zero, List.setIfInBounds_toArray, List.set_cons_zero, List.set_cons_succ]
  refine p_one 8 (by kernel_rfl) (fun W hW _ => ?_)
  refine op_callV (o := _) rfl (wanted_plain rfl) _ _ _ rfl 37 #[] #[.agg (arr key), .agg (arr nonce), .slice D p q, .slice E m d] (by simp [Act.eval]) (by simp [Act.eval]) (enterS_of3 _) ?_
  refine (of3_any key nonce hr.len Hn.out D p q aside E m d text W hW.ra hpq (by omega) hW.rt (by omega)).mono ?_
  rintro e W6 ⟨v, rfl, own, hE⟩
  rw [HL.out] at own
  have own := own.lower hW.old.size
  refine ⟨_, rfl, Next.mk (fun W => LkS w w.heap.size Suite.c256 95 (w.heap.size + 1) nonce A 32 key D p aside E m text W ∧ OwnB W w.heap.size v L) (fun _ => True) (fun _ h => h.1) ⟨hW.next hE, own⟩ trivial ?_⟩
  clear hE hW own
  simp only [Act.put, List.getElem_toArray, List.getElem_cons_succ, List.getElem_cons_zero, List.setIfInBounds_toArray, List.set_cons_zero, List.set_cons_succ]
  refine p_take 9 (o := _) rfl (by kernel_rfl) (by kernel_rfl) (by kernel_rfl) (wanted_plain rfl) (v) (fun _ _ _ h => h) (fun W hW => run_assign (by rfl) (by simp [Act.eval]) W) ?_
  simp only [Act.put, List.getElem_toArray, List.getElem_cons_succ, List.getElem_cons_zero, List.setIfInBounds_toArray, List.set_cons_zero, List.set_cons_succ]
  refine (show ∀ n, wpAnyV _ _ _ _ _ _ n _ _ _ from fun n => p_done (by kernel_rfl) (fun W1 H => ?_) n) _
  go_wp2
  go_ret
  exact ⟨v, rfl, H.2, H.1.old⟩
set_option maxHeartbeats 4000000 in
set_option maxRecDepth 100000 in
theorem opened_256 (A : Option Addr) (c : Nat) (key nonce : List UInt8) (hn : nonce.length = 12) (D : Option Addr) (p q : Nat) (aside : List UInt8) (E : Option Addr) (m d : Nat) (text : List UInt8) (w : World) (hr : ReadsB w w.heap.size A 32 key)
    (ha : ReadsB w w.heap.size D p aside) (hpq : p ≤ q) (ht : ReadsB w w.heap.size E m text) (hmd : m ≤ d) (hs : p + m ≤ 140737488355200) :
    Calls Tryd.prog 110 #[.agg Suite.c256, .slice A 32 c, .agg (arr nonce), .slice D p q, .slice E m d] w fun e w' => OpenedE 81 w (Gcm.unlock (Aes.keys key) nonce aside text) e w' := by
  have Hn := hd hn
  clear hn
  obtain ⟨L, HL⟩ : ∃ l, Hd (Gcm.unlock (Aes.keys key) nonce aside text = l) := ⟨_, ⟨rfl⟩⟩
  rw [HL.out]
  have hS0 : LkS w w.heap.size Suite.c256 95 (w.heap.size + 1) nonce A 32 key D p aside E m text ((w.alloc (.cells Suite.c256 95)).alloc (.cells (arr nonce) 27)) := by
    have hB := ((Below.refl w.heap.size w).alloc (Nat.le_refl _) (.cells Suite.c256 95)).alloc (by simp) (.cells (arr nonce) 27)
    exact ⟨(Blk.nu rfl).alloc _, Blk.nu (by simp), hr.onward hB, ha.onward hB, ht.onward hB, hB⟩
  go_enter Tryd.func110, Tryd.ntmps110
  go_wp2
  refine p_start (LkS w w.heap.size Suite.c256 95 (w.heap.size + 1) nonce A 32 key D p aside E m text) (by kernel_rfl) hS0.drew ?_
  clear hS0
  refine p_take 0 (o := _) rfl (by kernel_rfl) (by kernel_rfl) (by kernel_rfl) (wanted_plain rfl) (.pointer (some ⟨w.heap.size, 1, none⟩)) (fun _ _ _ h => h) (fun W hW => run_fieldAddrS (by rfl) (by simp [Act.eval]) (field1_256 _)) ?_
  simp only [Act.put, List.getElem_toArray, List.getElem_cons_succ, List.getElem_cons_zero, List.setIfInBounds_toArray, List.set_cons_zero, List.set_cons_succ]
  refine p_take 1 (o := _) rfl (by kernel_rfl) (by kernel_rfl) (by kernel_rfl) (wanted_plain rfl) (.func (.func 38) #[] #[]) (fun _ _ _ h => h) (fun W hW => run_execOp_load (by rfl) (by simp [Act.eval]) (run_loadVar_g32 _ _ W ((LkS.lk hW).cell 1))) ?_
  simp only [Act.put, List.getElem_toArray, List.getElem_cons_succ, List.getElem_cons_zero, List.setIfInBounds_toArray, List.set_cons_zero, List.set_cons_succ]
  refine p_take 2 (o := _) rfl (by kernel_rfl) (by kernel_rfl) (by kernel_rfl) (wanted_plain rfl) (.agg Suite.c256) (fun _ _ _ h => h) (fun W hW => run_execOp_load (by rfl) (by simp [Act.eval]) (run_loadVar_cells agg_l256 ⟨w.heap.size, 0, none⟩ (Suite.c256).toList rfl ((LkS.lk hW).cells_at 0 _ (fun j v hv => by rw [Nat.zero_add, ← Array.getElem?_toList]; exact hv)).is)) ?_
  simp only [Act.put, List.getElem_toArray, List.getElem_cons_succ, List.getElem_cons_zero, List.setIfInBounds_toArray, List.set_cons_zero, List.set_cons_succ]
  refine p_take 3 (o := _) rfl (by kernel_rfl) (by kernel_rfl) (by kernel_rfl) (wanted_plain rfl) (.slice A 32 c) (fun _ _ _ h => h) (fun W hW => run_move (by rfl) (by simp [Act.eval]) W) ?_
  simp only [Act.put, List.getElem_toArray, List.getElem_cons_succ, List.getElem_cons_zero, List.setIfInBounds_toArray, List.set_cons_zero, List.set_cons_succ]
  refine p_take 5 (o := _) rfl (by kernel_rfl) (by kernel_rfl) (by kernel_rfl) (wanted_plain rfl) (.agg (arr nonce)) (fun _ _ _ h => h) (fun W hW => run_load_arr (by rfl) (by simp [Act.eval]) ty12 nonce Hn.out (LkS.at_ hW).cells_arr) ?_
  simp only [Act.put, List.getElem_toArray, List.getElem_cons_succ, List.getElem_cons_zero, List.setIfInBounds_toArray, List.set_cons_zero, List.set_cons_succ]
  refine p_take 6 (o := _) rfl (by kernel_rfl) (by kernel_rfl) (by kernel_rfl) (wanted_plain rfl) (.slice D p q) (fun _ _ _ h => h) (fun W hW => run_move (by rfl) (by simp [Act.eval]) W) ?_
  simp only [Act.put, List.getElem_toArray, List.getElem_cons_succ, List.getElem_cons_zero, List.setIfInBounds_toArray, List.set_cons_zero, List.set_cons_succ]
  refine p_take 7 (o := _) rfl (by kernel_rfl) (by kernel_rfl) (by kernel_rfl) (wanted_plain rfl) (.slice E m d) (fun _ _ _ h => h) (fun W hW => run_move (by rfl) (by simp [Act.eval]) W) ?_
  simp only [Act.put, List.getElem_toArray, List.getElem_cons_succ, List.getElem_cons_zero, List.setIfInBounds_toArray, List.set_cons_zero, List.set_cons_succ]
  refine p_one 4 (by kernel_rfl) (fun W hW _ => ?_)
  refine op_call (o := _) rfl (wanted_plain rfl) 109 _ _ rfl #[.agg Suite.c256, .slice A 32 c] (by simp [Act.eval]) (enter_key256 _) ?_
  refine (key256_any Suite.c256 A c key W hW.rk).mono ?_
  rintro e W5 ⟨rfl, hE⟩
  refine ⟨_, rfl, Next.mk (LkS w w.heap.size Suite.c256 95 (w.heap.size + 1) nonce A 32 key D p aside E m text) (fun _ => True) (fun _ h => h) (hW.next hE) trivial ?_⟩
  clear hE hW
  simp only [Act.put, List.getElem_toArray, List.getElem_cons_succ, List.getElem_cons_zero, List.setIfInBounds_toArray, List.set_cons_zero, List.set_cons_succ]
  refine p_one 8 (by kernel_rfl) (fun W hW _ => ?_)
  refine op_callV (o := _) rfl (wanted_plain rfl) _ _ _ rfl 38 #[] #[.agg (arr key), .agg (arr nonce), .slice D p q, .slice E m d] (by simp [Act.eval]) (by simp [Act.eval]) (enterS_of4 _) ?_
  refine (of4_any key nonce hr.len Hn.out D p q aside E m d text W hW.ra hpq hW.rt hmd hs).mono ?_
  intro e W6 hO
  rw [HL.out] at hO
  cases L with
  | none =>
    obtain ⟨rfl, hE⟩ := hO
    refine ⟨_, rfl, Next.mk (fun W => LkS w w.heap.size Suite.c256 95 (w.heap.size + 1) nonce A 32 key D p aside E m text W ∧ True) (fun _ => True) (fun _ h => h.1) ⟨hW.next hE, trivial⟩ trivial ?_⟩
    clear hE hW
    simp only [Act.put, List.getElem_toArray, List.getElem_cons_succ, List.getElem_cons_zero, List.setIfInBounds_toArray, List.set_cons_zero, List.set_cons_succ]
    refine p_take 9 (o := _) rfl (by kernel_rfl) (by kernel_rfl) (by kernel_rfl) (wanted_plain rfl) (.slice none 0 0) (fun _ _ _ h => h) (fun W hW => run_extract (by rfl) #[.slice none 0 0, .int .i64 81] (.slice none 0 0) (by simp [Act.eval]) (by rfl)) ?_
    simp only [Act.put, List.getElem_toArray, List.getElem_cons_succ, List.getElem_cons_zero, List.setIfInBounds_toArray, List.set_cons_zero, List.set_cons_succ]
    refine p_take 10 (o := _) rfl (by kernel_rfl) (by kernel_rfl) (by kernel_rfl) (wanted_plain rfl) (.int .i64 81) (fun _ _ _ h => h) (fun W hW => run_extract (by rfl) #[.slice none 0 0, .int .i64 81] (.int .i64 81) (by simp [Act.eval]) (by rfl)) ?_
    simp only [Act.put, List.getElem_toArray, List.getElem_cons_succ, List.getElem_cons_zero, List.setIfInBounds_toArray, List.set_cons_zero, List.set_cons_succ]
    refine p_take 11 (o := _) rfl (by kernel_rfl) (by kernel_rfl) (by kernel_rfl) (wanted_plain rfl) (.slice none 0 0) (fun _ _ _ h => h) (fun W hW => run_assign (by rfl) (by simp [Act.eval]) W) ?_
    simp only [Act.put, List.getElem_toArray, List.getElem_cons_succ, List.getElem_cons_zero, List.setIfInBounds_toArray, List.set_cons_zero, List.set_cons_succ]
    refine p_take 12 (o := _) rfl (by kernel_rfl) (by kernel_rfl) (by kernel_rfl) (wanted_plain rfl) (.int .i64 81) (fun _ _ _ h => h) (fun W hW => run_assign (by rfl) (by simp [Act.eval]) W) ?_
    simp only [Act.put, List.getElem_toArray, List.getElem_cons_succ, List.getElem_cons_zero, List.setIfInBounds_toArray, List.set_cons_zero, List.set_cons_succ]
    refine (show ∀ n, wpAnyV _ _ _ _ _ _ n _ _ _ from fun n => p_done (by kernel_rfl) (fun W1 H => ?_) n) _
    go_wp2
    go_ret2
    exact ⟨rfl, H.1.old⟩
  | some l =>
    obtain ⟨v, rfl, own, hE⟩ := hO
    have own := own.lower hW.old.size
    refine ⟨_, rfl, Next.mk (fun W => LkS w w.heap.size Suite.c256 95 (w.heap.size + 1) nonce A 32 key D p aside E m text W ∧ OwnB W w.heap.size v l) (fun _ => True) (fun _ h => h.1) ⟨hW.next hE, own⟩ trivial ?_⟩
    clear hE hW
    simp only [Act.put, List.getElem_toArray, List.getElem_cons_succ, List.getElem_cons_zero, List.setIfInBounds_toArray, List.set_cons_zero, List.set_cons_succ]
    refine p_take 9 (o := _) rfl (by kernel_rfl) (by kernel_rfl) (by kernel_rfl) (wanted_plain rfl) (v) (fun _ _ _ h => h) (fun W hW => run_extract (by rfl) #[v, .int .i64 0] (v) (by simp [Act.eval]) (by rfl)) ?_
    simp only [Act.put, List.getElem_toArray, List.getElem_cons_succ, List.getElem_cons_zero, List.setIfInBounds_toArray, List.set_cons_zero, List.set_cons_succ]
    refine p_take 10 (o := _) rfl (by kernel_rfl) (by kernel_rfl) (by kernel_rfl) (wanted_plain rfl) (.int .i64 0) (fun _ _ _ h => h) (fun W hW => run_extract (by rfl) #[v, .int .i64 0] (.int .i64 0) (by simp [Act.eval]) (by rfl)) ?_
    simp only [Act.put, List.getElem_toArray, List.getElem_cons_succ, List.getElem_cons_zero, List.setIfInBounds_toArray, List.set_cons_zero, List.set_cons_succ]
    refine p_take 11 (o := _) rfl (by kernel_rfl) (by kernel_rfl) (by kernel_rfl) (wanted_plain rfl) (v) (fun _ _ _ h => h) (fun W hW => run_assign (by rfl) (by simp [Act.eval]) W) ?_
    simp only [Act.put, List.getElem_toArray, List.getElem_cons_succ, List.getElem_cons_zero, List.setIfInBounds_toArray, List.set_cons_zero, List.set_cons_succ]
    refine p_take 12 (o := _) rfl (by kernel_rfl) (by kernel_rfl) (by kernel_rfl) (wanted_plain rfl) (.int .i64 0) (fun _ _ _ h => h) (fun W hW => run_assign (by rfl) (by simp [Act.eval]) W) ?_
    simp only [Act.put, List.getElem_toArray, List.getElem_cons_succ, List.getElem_cons_zero, List.setIfInBounds_toArray, List.set_cons_zero, List.set_cons_succ]
    refine (show ∀ n, wpAnyV _ _ _ _ _ _ n _ _ _ from fun n => p_done (by kernel_rfl) (fun W1 H => ?_) n) _
    go_wp2
    go_ret2
    exact ⟨v, rfl, H.2, H.1.old⟩
set_option maxHeartbeats 4000000 in
set_option maxRecDepth 100000 in
theorem sealed_cha (A : Option Addr) (c : Nat) (key nonce : List UInt8) (hn : nonce.length = 12) (D : Option Addr) (p q : Nat) (aside : List UInt8) (E : Option Addr) (m d : Nat) (text : List UInt8) (w : World) (hr : ReadsB w w.heap.size A 32 key)
    (ha : ReadsB w w.heap.size D p aside) (hpq : p ≤ q) (ht : ReadsB w w.heap.size E m text) (hmd : m ≤ d) (hs : p + m ≤ 140737488355200) :
    Calls Tryd.prog 111 #[.agg Suite.ccha, .slice A 32 c, .agg (arr nonce), .slice D p q, .slice E m d] w fun e w' => ∃ v, e = .returned v ∧ OwnB w' w.heap.size v (Cha.lock key nonce aside text) ∧ Below w.heap.size w w' := by
  have Hn := hd hn
  clear hn
  obtain ⟨L, HL⟩ : ∃ l, Hd (Cha.lock key nonce aside text = l) := ⟨_, ⟨rfl⟩⟩
  rw [HL.out]
  have hS0 : LkS w w.heap.size Suite.ccha 95 (w.heap.size + 1) nonce A 32 key D p aside E m text ((w.alloc (.cells Suite.ccha 95)).alloc (.cells (arr nonce) 27)) := by
    have hB := ((Below.refl w.heap.size w).alloc (Nat.le_refl _) (.cells Suite.ccha 95)).alloc (by simp) (.cells (arr nonce) 27)
    exact ⟨(Blk.nu rfl).alloc _, Blk.nu (by simp), hr.onward hB, ha.onward hB, ht.onward hB, hB⟩
  go_enter Tryd.func111, Tryd.ntmps111
  go_wp2
  refine p_start (LkS w w.heap.size Suite.ccha 95 (w.heap.size + 1) nonce A 32 key D p aside E m text) (by kernel_rfl) hS0.drew ?_
  clear hS0
  refine p_take 0 (o := _) rfl (by kernel_rfl) (by kernel_rfl) (by kernel_rfl) (wanted_plain rfl) (.pointer (some ⟨w.heap.size, 0, none⟩)) (fun _ _ _ h => h) (fun W hW => run_fieldAddrS (by rfl) (by simp [Act.eval]) (field0_256 _)) ?_
  simp only [Act.put, List.getElem_toArray, List.getElem_cons_succ, List.getElem_cons_zero, List.setIfInBounds_toArray, List.set_cons_zero, List.set_cons_succ]
  refine p_take 1 (o := _) rfl (by kernel_rfl) (by kernel_rfl) (by kernel_rfl) (wanted_plain rfl) (.func (.func 39) #[] #[]) (fun _ _ _ h => h) (fun W hW => run_execOp_load (by rfl) (by simp [Act.eval]) (run_loadVar_f32 _ _ W ((LkS.lk hW).cell 0))) ?_
  simp only [Act.put, List.getElem_toArray, List.getElem_cons_succ, List.getElem_cons_zero, List.setIfInBounds_toArray, List.set_cons_zero, List.set_cons_succ]
  refine p_take 2 (o := _) rfl (by kernel_rfl) (by kernel_rfl) (by kernel_rfl) (wanted_plain rfl) (.agg Suite.ccha) (fun _ _ _ h => h) (fun W hW => run_execOp_load (by rfl) (by simp [Act.eval]) (run_loadVar_cells agg_l256 ⟨w.heap.size, 0, none⟩ (Suite.ccha).toList rfl ((LkS.lk hW).cells_at 0 _ (fun j v hv => by rw [Nat.zero_add, ← Array.getElem?_toList]; exact hv)).is)) ?_
  simp only [Act.put, List.getElem_toArray, List.getElem_cons_succ, List.getElem_cons_zero, List.setIfInBounds_toArray, List.set_cons_zero, List.set_cons_succ]
  refine p_take 3 (o := _) rfl (by kernel_rfl) (by kernel_rfl) (by kernel_rfl) (wanted_plain rfl) (.slice A 32 c) (fun _ _ _ h => h) (fun W hW => run_move (by rfl) (by simp [Act.eval]) W) ?_
  simp only [Act.put, List.getElem_toArray, List.getElem_cons_succ, List.getElem_cons_zero, List.setIfInBounds_toArray, List.set_cons_zero, List.set_cons_succ]
  refine p_take 5 (o := _) rfl (by kernel_rfl) (by kernel_rfl) (by kernel_rfl) (wanted_plain rfl) (.agg (arr nonce)) (fun _ _ _ h => h) (fun W hW => run_load_arr (by rfl) (by simp [Act.eval]) ty12 nonce Hn.out (LkS.at_ hW).cells_arr) ?_
  simp only [Act.put, List.getElem_toArray, List.getElem_cons_succ, List.getElem_cons_zero, List.setIfInBounds_toArray, List.set_cons_zero, List.set_cons_succ]
  refine p_take 6 (o := _) rfl (by kernel_rfl) (by kernel_rfl) (by kernel_rfl) (wanted_plain rfl) (.slice D p q) (fun _ _ _ h => h) (fun W hW => run_move (by rfl) (by simp [Act.eval]) W) ?_
  simp only [Act.put, List.getElem_toArray, List.getElem_cons_succ, List.getElem_cons_zero, List.setIfInBounds_toArray, List.set_cons_zero, List.set_cons_succ]
  refine p_take 7 (o := _) rfl (by kernel_rfl) (by kernel_rfl) (by kernel_rfl) (wanted_plain rfl) (.slice E m d) (fun _ _ _ h => h) (fun W hW => run_move (by rfl) (by simp [Act.eval]) W) ?_
  simp only [Act.put, List.getElem_toArray, List.getElem_cons_succ, List.getElem_cons_zero, List.setIfInBounds_toArray, List.set_cons_zero, List.set_cons_succ]
  refine p_one 4 (by kernel_rfl) (fun W hW _ => ?_)
  refine op_call (o := _) rfl (wanted_plain rfl) 109 _ _ rfl #[.agg Suite.ccha, .slice A 32 c] (by simp [Act.eval]) (enter_key256 _) ?_
  refine (key256_any Suite.ccha A c key W hW.rk).mono ?_
  rintro e W5 ⟨rfl, hE⟩
  refine ⟨_, rfl, Next.mk (LkS w w.heap.size Suite.ccha 95 (w.heap.size + 1) nonce A 32 key D p aside E m text) (fun _ => True) (fun _ h => h) (hW.next hE) trivial ?_⟩
  clear hE hW
  simp only [Act.put, List.getElem_toArray, List.getElem_cons_succ, List.getElem_cons_zero, List.setIfInBounds_toArray, List.set_cons_zero, List.set_cons_succ]
  refine p_one 8 (by kernel_rfl) (fun W hW _ => ?_)
  refine op_callV (o := _) rfl (wanted_plain rfl) _ _ _ rfl 39 #[] #[.agg (arr key), .agg (arr nonce), .slice D p q, .slice E m d] (by simp [Act.eval]) (by simp [Act.eval]) (enterS_Seal _) ?_
  refine (chaSeal_any key nonce hr.len Hn.out D p q aside E m d text W hW.ra hpq hW.rt hmd hs).mono ?_
  rintro e W6 ⟨v, rfl, own, hE⟩
  rw [HL.out] at own
  have own := own.lower hW.old.size
  refine ⟨_, rfl, Next.mk (fun W => LkS w w.heap.size Suite.ccha 95 (w.heap.size + 1) nonce A 32 key D p aside E m text W ∧ OwnB W w.heap.size v L) (fun _ => True) (fun _ h => h.1) ⟨hW.next hE, own⟩ trivial ?_⟩
  clear hE hW own
  simp only [Act.put, List.getElem_toArray, List.getElem_cons_succ, List.getElem_cons_zero, List.setIfInBounds_toArray, List.set_cons_zero, List.set_cons_succ]
  refine p_take 9 (o := _) rfl (by kernel_rfl) (by kernel_rfl) (by kernel_rfl) (wanted_plain rfl) (v) (fun _ _ _ h => h) (fun W hW => run_assign (by rfl) (by simp [Act.eval]) W) ?_
  simp only [Act.put, List.getElem_toArray, List.getElem_cons_succ, List.getElem_cons_zero, List.setIfInBounds_toArray, List.set_cons_zero, List.set_cons_succ]
  refine (show ∀ n, wpAnyV _ _ _ _ _ _ n _ _ _ from fun n => p_done (by kernel_rfl) (fun W1 H => ?_) n) _
  go_wp2
  go_ret
  exact ⟨v, rfl, H.2, H.1.old⟩
set_option maxHeartbeats 4000000 in
set_option maxRecDepth 100000 in
theorem opened_cha (A : Option Addr) (c : Nat) (key nonce : List UInt8) (hn : nonce.length = 12) (D : Option Addr) (p q : Nat) (aside : List UInt8) (E : Option Addr) (m d : Nat) (text : List UInt8) (w : World) (hr : ReadsB w w.heap.size A 32 key)
    (ha : ReadsB w w.heap.size D p aside) (hpq : p ≤ q) (ht : ReadsB w w.heap.size E m text) (hmd : m ≤ d) (hs : p + m ≤ 140737488355200) :
    Calls Tryd.prog 110 #[.agg Suite.ccha, .slice A 32 c, .agg (arr nonce), .slice D p q, .slice E m d] w fun e w' => OpenedE 91 w (Cha.unlock key nonce aside text) e w' := by
  have Hn := hd hn
  clear hn
  obtain ⟨L, HL⟩ : ∃ l, Hd (Cha.unlock key nonce aside text = l) := ⟨_, ⟨rfl⟩⟩
  rw [HL.out]
  have hS0 : LkS w w.heap.size Suite.ccha 95 (w.heap.size + 1) nonce A 32 key D p aside E m text ((w.alloc (.cells Suite.ccha 95)).alloc (.cells (arr nonce) 27)) := by
    have hB := ((Below.refl w.heap.size w).alloc (Nat.le_refl _) (.cells Suite.ccha 95)).alloc (by simp) (.cells (arr nonce) 27)
    exact ⟨(Blk.nu rfl).alloc _, Blk.nu (by simp), hr.onward hB, ha.onward hB, ht.onward hB, hB⟩
  go_enter Tryd.func110, Tryd.ntmps110
  go_wp2
  refine p_start (LkS w w.heap.size Suite.ccha 95 (w.heap.size + 1) nonce A 32 key D p aside E m text) (by kernel_rfl) hS0.drew ?_
  clear hS0
  refine p_take 0 (o := _) rfl (by kernel_rfl) (by kernel_rfl) (by kernel_rfl) (wanted_plain rfl) (.pointer (some ⟨w.heap.size, 1, none⟩)) (fun _ _ _ h => h) (fun W hW => run_fieldAddrS (by rfl) (by simp [Act.eval]) (field1_256 _)) ?_
  simp only [Act.put, List.getElem_toArray, List.getElem_cons_succ, List.getElem_cons_zero, List.setIfInBounds_toArray, List.set_cons_zero, List.set_cons_succ]
  refine p_take 1 (o := _) rfl (by kernel_rfl) (by kernel_rfl) (by kernel_rfl) (wanted_plain rfl) (.func (.func 40) #[] #[]) (fun _ _ _ h => h) (fun W hW => run_execOp_load (by rfl) (by simp [Act.eval]) (run_loadVar_g32 _ _ W ((LkS.lk hW).cell 1))) ?_
  simp only [Act.put, List.getElem_toArray, List.getElem_cons_succ, List.getElem_cons_zero, List.setIfInBounds_toArray, List.set_cons_zero, List.set_cons_succ]
  refine p_take 2 (o := _) rfl (by kernel_rfl) (by kernel_rfl) (by kernel_rfl) (wanted_plain rfl) (.agg Suite.ccha) (fun _ _ _ h => h) (fun W hW => run_execOp_load (by rfl) (by simp [Act.eval]) (run_loadVar_cells agg_l256 ⟨w.heap.size, 0, none⟩ (Suite.ccha).toList rfl ((LkS.lk hW).cells_at 0 _ (fun j v hv => by rw [Nat.zero_add, ← Array.getElem?_toList]; exact hv)).is)) ?_
  simp only [Act.put, List.getElem_toArray, List.getElem_cons_succ, List.getElem_cons_zero, List.setIfInBounds_toArray, List.set_cons_zero, List.set_cons_succ]
  refine p_take 3 (o := _) rfl (by kernel_rfl) (by kernel_rfl) (by kernel_rfl) (wanted_plain rfl) (.slice A 32 c) (fun _ _ _ h => h) (fun W hW => run_move (by rfl) (by simp [Act.eval]) W) ?_
  simp only [Act.put, List.getElem_toArray, List.getElem_cons_succ, List.getElem_cons_zero, List.setIfInBounds_toArray, List.set_cons_zero, List.set_cons_succ]
  refine p_take 5 (o := _) rfl (by kernel_rfl) (by kernel_rfl) (by kernel_rfl) (wanted_plain rfl) (.agg (arr nonce)) (fun _ _ _ h => h) (fun W hW => run_load_arr (by rfl) (by simp [Act.eval]) ty12 nonce Hn.out (LkS.at_ hW).cells_arr) ?_
  simp only [Act.put, List.getElem_toArray, List.getElem_cons_succ, List.getElem_cons_zero, List.setIfInBounds_toArray, List.set_cons_zero, List.set_cons_succ]
  refine p_take 6 (o := _) rfl (by kernel_rfl) (by kernel_rfl) (by kernel_rfl) (wanted_plain rfl) (.slice D p q) (fun _ _ _ h => h) (fun W hW => run_move (by rfl) (by simp [Act.eval]) W) ?_
  simp only [Act.put, List.getElem_toArray, List.getElem_cons_succ, List.getElem_cons_zero, List.setIfInBounds_toArray, List.set_cons_zero, List.set_cons_succ]
  refine p_take 7 (o := _) rfl (by kernel_rfl) (by kernel_rfl) (by kernel_rfl) (wanted_plain rfl) (.slice E m d) (fun _ _ _ h => h) (fun W hW => run_move (by rfl) (by simp [Act.eval]) W) ?_
  simp only [Act.put, List.getElem_toArray, List.getElem_cons_succ, List.getElem_cons_zero, List.setIfInBounds_toArray, List.set_cons_zero, List.set_cons_succ]
  refine p_one 4 (by kernel_rfl) (fun W hW _ => ?_)
  refine op_call (o := _) rfl (wanted_plain rfl) 109 _ _ rfl #[.agg Suite.ccha, .slice A 32 c] (by simp [Act.eval]) (enter_key256 _) ?_
  refine (key256_any Suite.ccha A c key W hW.rk).mono ?_
  rintro e W5 ⟨rfl, hE⟩
  refine ⟨_, rfl, Next.mk (LkS w w.heap.size Suite.ccha 95 (w.heap.size + 1) nonce A 32 key D p aside E m text) (fun _ => True) (fun _ h => h) (hW.next hE) trivial ?_⟩
  clear hE hW
  simp only [Act.put, List.getElem_toArray, List.getElem_cons_succ, List.getElem_cons_zero, List.setIfInBounds_toArray, List.set_cons_zero, List.set_cons_succ]
  refine p_one 8 (by kernel_rfl) (fun W hW _ => ?_)
  refine op_callV (o := _) rfl (wanted_plain rfl) _ _ _ rfl 40 #[] #[.agg (arr key), .agg (arr nonce), .slice D p q, .slice E m d] (by simp [Act.eval]) (by simp [Act.eval]) (enterS_Open _) ?_
  refine (chaOpen_any key nonce hr.len Hn.out D p q aside E m d text W hW.ra hpq hW.rt hmd hs).mono ?_
  intro e W6 hO
  rw [HL.out] at hO
  cases L with
  | none =>
    obtain ⟨rfl, hE⟩ := hO
    refine ⟨_, rfl, Next.mk (fun W => LkS w w.heap.size Suite.ccha 95 (w.heap.size + 1) nonce A 32 key D p aside E m text W ∧ True) (fun _ => True) (fun _ h => h.1) ⟨hW.next hE, trivial⟩ trivial ?_⟩
    clear hE hW
    simp only [Act.put, List.getElem_toArray, List.getElem_cons_succ, List.getElem_cons_zero, List.setIfInBounds_toArray, List.set_cons_zero, List.set_cons_succ]
    refine p_take 9 (o := _) rfl (by kernel_rfl) (by kernel_rfl) (by kernel_rfl) (wanted_plain rfl) (.slice none 0 0) (fun _ _ _ h => h) (fun W hW => run_extract (by rfl) #[.slice none 0 0, .int .i64 91] (.slice none 0 0) (by simp [Act.eval]) (by rfl)) ?_
    simp only [Act.put, List.getElem_toArray, List.getElem_cons_succ, List.getElem_cons_zero, List.setIfInBounds_toArray, List.set_cons_zero, List.set_cons_succ]
    refine p_take 10 (o := _) rfl (by kernel_rfl) (by kernel_rfl) (by kernel_rfl) (wanted_plain rfl) (.int .i64 91) (fun _ _ _ h => h) (fun W hW => run_extract (by rfl) #[.slice none 0 0, .int .i64 91] (.int .i64 91) (by simp [Act.eval]) (by rfl)) ?_
    simp only [Act.put, List.getElem_toArray, List.getElem_cons_succ, List.getElem_cons_zero, List.setIfInBounds_toArray, List.set_cons_zero, List.set_cons_succ]
    refine p_take 11 (o := _) rfl (by kernel_rfl) (by kernel_rfl) (by kernel_rfl) (wanted_plain rfl) (.slice none 0 0) (fun _ _ _ h => h) (fun W hW => run_assign (by rfl) (by simp [Act.eval]) W) ?_
    simp only [Act.put, List.getElem_toArray, List.getElem_cons_succ, List.getElem_cons_zero, List.setIfInBounds_toArray, List.set_cons_zero, List.set_cons_succ]
    refine p_take 12 (o := _) rfl (by kernel_rfl) (by kernel_rfl) (by kernel_rfl) (wanted_plain rfl) (.int .i64 91) (fun _ _ _ h => h) (fun W hW => run_assign (by rfl) (by simp [Act.eval]) W) ?_
    simp only [Act.put, List.getElem_toArray, List.getElem_cons_succ, List.getElem_cons_zero, List.setIfInBounds_toArray, List.set_cons_zero, List.set_cons_succ]
    refine (show ∀ n, wpAnyV _ _ _ _ _ _ n _ _ _ from fun n => p_done (by kernel_rfl) (fun W1 H => ?_) n) _
    go_wp2
    go_ret2
    exact ⟨rfl, H.1.old⟩
  | some l =>
    obtain ⟨v, rfl, own, hE⟩ := hO
    have own := own.lower hW.old.size
    refine ⟨_, rfl, Next.mk (fun W => LkS w w.heap.size Suite.ccha 95 (w.heap.size + 1) nonce A 32 key D p aside E m text W ∧ OwnB W w.heap.size v l) (fun _ => True) (fun _ h => h.1) ⟨hW.next hE, own⟩ trivial ?_⟩
    clear hE hW
    simp only [Act.put, List.getElem_toArray, List.getElem_cons_succ, List.getElem_cons_zero, List.setIfInBounds_toArray, List.set_cons_zero, List.set_cons_succ]
    refine p_take 9 (o := _) rfl (by kernel_rfl) (by kernel_rfl) (by kernel_rfl) (wanted_plain rfl) (v) (fun _ _ _ h => h) (fun W hW => run_extract (by rfl) #[v, .int .i64 0] (v) (by simp [Act.eval]) (by rfl)) ?_
    simp only [Act.put, List.getElem_toArray, List.getElem_cons_succ, List.getElem_cons_zero, List.setIfInBounds_toArray, List.set_cons_zero, List.set_cons_succ]
    refine p_take 10 (o := _) rfl (by kernel_rfl) (by kernel_rfl) (by kernel_rfl) (wanted_plain rfl) (.int .i64 0) (fun _ _ _ h => h) (fun W hW => run_extract (by rfl) #[v, .int .i64 0] (.int .i64 0) (by simp [Act.eval]) (by rfl)) ?_
    simp only [Act.put, List.getElem_toArray, List.getElem_cons_succ, List.getElem_cons_zero, List.setIfInBounds_toArray, List.set_cons_zero, List.set_cons_succ]
    refine p_take 11 (o := _) rfl (by kernel_rfl) (by kernel_rfl) (by kernel_rfl) (wanted_plain rfl) (v) (fun _ _ _ h => h) (fun W hW => run_assign (by rfl) (by simp [Act.eval]) W) ?_
    simp only [Act.put, List.getElem_toArray, List.getElem_cons_succ, List.getElem_cons_zero, List.setIfInBounds_toArray, List.set_cons_zero, List.set_cons_succ]
    refine p_take 12 (o := _) rfl (by kernel_rfl) (by kernel_rfl) (by kernel_rfl) (wanted_plain rfl) (.int .i64 0) (fun _ _ _ h => h) (fun W hW => run_assign (by rfl) (by simp [Act.eval]) W) ?_
    simp only [Act.put, List.getElem_toArray, List.getElem_cons_succ, List.getElem_cons_zero, List.setIfInBounds_toArray, List.set_cons_zero, List.set_cons_succ]
    refine (show ∀ n, wpAnyV _ _ _ _ _ _ n _ _ _ from fun n => p_done (by kernel_rfl) (fun W1 H => ?_) n) _
    go_wp2
    go_ret2
    exact ⟨v, rfl, H.2, H.1.old⟩
theorem sealed128_here (v : Value) (w : World) : (method 279 91 v "drawbridge/suite.sealed").run Tryd.prog w = .ok (106, v) w := by kernel_rfl
theorem opened128_here (v : Value) (w : World) : (method 279 91 v "drawbridge/suite.opened").run Tryd.prog w = .ok (105, v) w := by kernel_rfl
theorem sealed256_here (v : Value) (w : World) : (method 279 95 v "drawbridge/suite.sealed").run Tryd.prog w = .ok (111, v) w := by kernel_rfl
theorem opened256_here (v : Value) (w : World) : (method 279 95 v "drawbridge/suite.opened").run Tryd.prog w = .ok (110, v) w := by kernel_rfl
set_option maxHeartbeats 2000000 in
set_option maxRecDepth 100000 in
theorem mayNot_128 (A : Option Addr) (n c : Nat) (hn : ¬ n = 16) (w : World) : Calls Tryd.prog 25 #[.int .u16 4865, .slice A n c] w fun e w' => e = .returned (.tuple #[.nilIface, .int .i64 102]) ∧ Below w.heap.size w w' := by
  go_enter Tryd.func25, Tryd.ntmps25
  go_wp2_with (first | rw [size128_at] | (go_at_call 107; refine (size128_any _ _).mono ?_; rintro e w2 ⟨rfl, hB⟩) | (go_at_call 31; refine (of_128 _).mono ?_; rintro e w1 ⟨rfl, rfl⟩; unfold Suite.l128))
  go_ret2
  exact ⟨rfl, hB⟩
set_option maxHeartbeats 2000000 in
set_option maxRecDepth 100000 in
theorem may_256 (A : Option Addr) (c : Nat) (w : World) : Calls Tryd.prog 25 #[.int .u16 4866, .slice A 32 c] w fun e w' => e = .returned (.tuple #[Suite.l256, .int .i64 0]) ∧ Below w.heap.size w w' := by
  go_enter Tryd.func25, Tryd.ntmps25
  go_wp2_with (first | rw [size256_at] | (go_at_call 112; refine (size256_any _ _).mono ?_; rintro e w2 ⟨rfl, hB⟩) | (go_at_call 31; refine (of_256 _).mono ?_; rintro e w1 ⟨rfl, rfl⟩; unfold Suite.l256))
  go_ret2
  exact ⟨rfl, hB⟩
set_option maxHeartbeats 2000000 in
set_option maxRecDepth 100000 in
theorem mayNot_256 (A : Option Addr) (n c : Nat) (hn : ¬ n = 32) (w : World) : Calls Tryd.prog 25 #[.int .u16 4866, .slice A n c] w fun e w' => e = .returned (.tuple #[.nilIface, .int .i64 102]) ∧ Below w.heap.size w w' := by
  go_enter Tryd.func25, Tryd.ntmps25
  go_wp2_with (first | rw [size256_at] | (go_at_call 112; refine (size256_any _ _).mono ?_; rintro e w2 ⟨rfl, hB⟩) | (go_at_call 31; refine (of_256 _).mono ?_; rintro e w1 ⟨rfl, rfl⟩; unfold Suite.l256))
  go_ret2
  exact ⟨rfl, hB⟩
set_option maxHeartbeats 2000000 in
set_option maxRecDepth 100000 in
theorem may_cha (A : Option Addr) (c : Nat) (w : World) : Calls Tryd.prog 25 #[.int .u16 4867, .slice A 32 c] w fun e w' => e = .returned (.tuple #[Suite.lcha, .int .i64 0]) ∧ Below w.heap.size w w' := by
  go_enter Tryd.func25, Tryd.ntmps25
  go_wp2_with (first | rw [size256_at] | (go_at_call 112; refine (size256_any _ _).mono ?_; rintro e w2 ⟨rfl, hB⟩) | (go_at_call 31; refine (of_cha _).mono ?_; rintro e w1 ⟨rfl, rfl⟩; unfold Suite.lcha))
  go_ret2
  exact ⟨rfl, hB⟩
set_option maxHeartbeats 2000000 in
set_option maxRecDepth 100000 in
theorem mayNot_cha (A : Option Addr) (n c : Nat) (hn : ¬ n = 32) (w : World) : Calls Tryd.prog 25 #[.int .u16 4867, .slice A n c] w fun e w' => e = .returned (.tuple #[.nilIface, .int .i64 102]) ∧ Below w.heap.size w w' := by
  go_enter Tryd.func25, Tryd.ntmps25
  go_wp2_with (first | rw [size256_at] | (go_at_call 112; refine (size256_any _ _).mono ?_; rintro e w2 ⟨rfl, hB⟩) | (go_at_call 31; refine (of_cha _).mono ?_; rintro e w1 ⟨rfl, rfl⟩; unfold Suite.lcha))
  go_ret2
  exact ⟨rfl, hB⟩
set_option maxHeartbeats 2000000 in
set_option maxRecDepth 100000 in
theorem mayNone (s : UInt16) (h1 : (s == 4865) = false) (h2 : (s == 4866) = false) (h3 : (s == 4867) = false) (A : Option Addr) (n c : Nat) (w : World) : Calls Tryd.prog 25 #[.int .u16 ((n16 s : Nat) : Int), .slice A n c] w fun e w' => e = .returned (.tuple #[.nilIface, .int .i64 101]) ∧ Below w.heap.size w w' := by
  go_enter Tryd.func25, Tryd.ntmps25
  go_wp2_with (first | (go_at_call 31; refine (suiteOf_none s h1 h2 h3 _).mono ?_; rintro e w1 ⟨rfl, rfl⟩))
  go_ret2
  exact ⟨rfl, Below.refl _ _⟩
set_option maxHeartbeats 2000000 in
set_option maxRecDepth 100000 in
theorem suiteSeal_128' (A : Option Addr) (c : Nat) (key nonce : List UInt8) (hn : nonce.length = 12) (D : Option Addr) (p q : Nat) (aside : List UInt8) (E : Option Addr) (m d : Nat) (text : List UInt8) (w : World) (hr : ReadsB w w.heap.size A 16 key)
    (ha : ReadsB w w.heap.size D p aside) (hpq : p ≤ q) (ht : ReadsB w w.heap.size E m text) (hmd : m ≤ d) (hs : p + m ≤ 140737488355200) :
    Calls Tryd.prog 14 #[.int .u16 4865, .slice A 16 c, .agg (arr nonce), .slice D p q, .slice E m d] w fun e w' => ∃ v, e = .returned (.tuple #[v, .int .i64 0]) ∧ OwnB w' w.heap.size v (Gcm.lock (Aes.keys key) nonce aside text) ∧ Below w.heap.size w w' := by
  have Hn := hd hn
  clear hn
  obtain ⟨L, HL⟩ : ∃ l, Hd (Gcm.lock (Aes.keys key) nonce aside text = l) := ⟨_, ⟨rfl⟩⟩
  rw [HL.out]
  have hB0 := (Below.refl w.heap.size w).alloc (Nat.le_refl _) (.cells (arr nonce) 27)
  have b0 : Blk (w.alloc (.cells (arr nonce) 27)) w.heap.size 27 (arr nonce) := Blk.nu rfl
  go_enter Tryd.func14, Tryd.ntmps14
  go_wp2_with fail
  refine (may_128 A c _).mono ?_
  rintro e w1 ⟨rfl, hB1⟩
  have b1 := b0.below hB1 b0.lt
  have hB2 := hB0.trans (hB1.mono hB0.size)
  unfold Suite.l128
  go_wp2_with (first | rw [sealed128_here] | (refine wpl_load_arr rfl 27 _ rfl _ rfl 12 ty12 nonce Hn.out b1.cells_arr ?_) | (go_at_call 106; refine (sealed_128 A c key nonce Hn.out D p q aside E m d text _ (hr.onward hB2) (ha.onward hB2) hpq (ht.onward hB2) hmd hs).mono ?_; rintro e w3 ⟨v, rfl, own, hB3⟩; rw [HL.out] at own; have hB4 := hB2.trans (hB3.mono hB2.size); have hle := hB2.size))
  go_ret2
  exact ⟨v, rfl, own.lower hle, hB4⟩
set_option maxHeartbeats 2000000 in
set_option maxRecDepth 100000 in
theorem suiteOpen_128 (A : Option Addr) (c : Nat) (key nonce : List UInt8) (hn : nonce.length = 12) (D : Option Addr) (p q : Nat) (aside : List UInt8) (E : Option Addr) (m d : Nat) (text : List UInt8) (w : World) (hr : ReadsB w w.heap.size A 16 key)
    (ha : ReadsB w w.heap.size D p aside) (hpq : p ≤ q) (ht : ReadsB w w.heap.size E m text) (hmd : m ≤ d) (hs : p + m ≤ 140737488355200) :
    Calls Tryd.prog 18 #[.int .u16 4865, .slice A 16 c, .agg (arr nonce), .slice D p q, .slice E m d] w fun e w' => OpenedE 103 w (Gcm.unlock (Aes.keys key) nonce aside text) e w' := by
  have Hn := hd hn
  clear hn
  obtain ⟨L, HL⟩ : ∃ l, Hd (Gcm.unlock (Aes.keys key) nonce aside text = l) := ⟨_, ⟨rfl⟩⟩
  rw [HL.out]
  have hB0 := (Below.refl w.heap.size w).alloc (Nat.le_refl _) (.cells (arr nonce) 27)
  have b0 : Blk (w.alloc (.cells (arr nonce) 27)) w.heap.size 27 (arr nonce) := Blk.nu rfl
  go_enter Tryd.func18, Tryd.ntmps18
  go_wp2_with fail
  refine (may_128 A c _).mono ?_
  rintro e w1 ⟨rfl, hB1⟩
  have b1 := b0.below hB1 b0.lt
  have hB2 := hB0.trans (hB1.mono hB0.size)
  unfold Suite.l128
  go_wp2_with (first | rw [opened128_here] | (refine wpl_load_arr rfl 27 _ rfl _ rfl 12 ty12 nonce Hn.out b1.cells_arr ?_))
  refine (opened_128 A c key nonce Hn.out D p q aside E m d text _ (hr.onward hB2) (ha.onward hB2) hpq (ht.onward hB2) hmd hs).mono ?_
  intro e w3 hO
  have hO := hO.low hB2
  rw [HL.out] at hO
  cases L with
  | none =>
    obtain ⟨rfl, hB⟩ := hO
    go_wp2
    go_ret2
    exact ⟨rfl, hB⟩
  | some l =>
    obtain ⟨v, rfl, own, hB⟩ := hO
    go_wp2
    go_ret2
    exact ⟨v, rfl, own, hB⟩
set_option maxHeartbeats 2000000 in
set_option maxRecDepth 100000 in
theorem suiteSealNot_128 (A : Option Addr) (n c : Nat) (hk : ¬ n = 16) (nonce : List UInt8) (X Y : Value) (w : World) :
    Calls Tryd.prog 14 #[.int .u16 4865, .slice A n c, .agg (arr nonce), X, Y] w fun e w' => e = .returned (.tuple #[.slice none 0 0, .int .i64 102]) ∧ Below w.heap.size w w' := by
  have hB0 := (Below.refl w.heap.size w).alloc (Nat.le_refl _) (.cells (arr nonce) 27)
  go_enter Tryd.func14, Tryd.ntmps14
  go_wp2_with (go_at_call 25; refine (mayNot_128 A n c hk _).mono ?_; rintro e w1 ⟨rfl, hB1⟩)
  go_ret2
  exact ⟨rfl, hB0.trans (hB1.mono hB0.size)⟩
set_option maxHeartbeats 2000000 in
set_option maxRecDepth 100000 in
theorem suiteOpenNot_128 (A : Option Addr) (n c : Nat) (hk : ¬ n = 16) (nonce : List UInt8) (X Y : Value) (w : World) :
    Calls Tryd.prog 18 #[.int .u16 4865, .slice A n c, .agg (arr nonce), X, Y] w fun e w' => e = .returned (.tuple #[.slice none 0 0, .int .i64 102]) ∧ Below w.heap.size w w' := by
  have hB0 := (Below.refl w.heap.size w).alloc (Nat.le_refl _) (.cells (arr nonce) 27)
  go_enter Tryd.func18, Tryd.ntmps18
  go_wp2_with (go_at_call 25; refine (mayNot_128 A n c hk _).mono ?_; rintro e w1 ⟨rfl, hB1⟩)
  go_ret2
  exact ⟨rfl, hB0.trans (hB1.mono hB0.size)⟩
set_option maxHeartbeats 2000000 in
set_option maxRecDepth 100000 in
theorem suiteSeal_256' (A : Option Addr) (c : Nat) (key nonce : List UInt8) (hn : nonce.length = 12) (D : Option Addr) (p q : Nat) (aside : List UInt8) (E : Option Addr) (m d : Nat) (text : List UInt8) (w : World) (hr : ReadsB w w.heap.size A 32 key)
    (ha : ReadsB w w.heap.size D p aside) (hpq : p ≤ q) (ht : ReadsB w w.heap.size E m text) (hmd : m ≤ d) (hs : p + m ≤ 140737488355200) :
    Calls Tryd.prog 14 #[.int .u16 4866, .slice A 32 c, .agg (arr nonce), .slice D p q, .slice E m d] w fun e w' => ∃ v, e = .returned (.tuple #[v, .int .i64 0]) ∧ OwnB w' w.heap.size v (Gcm.lock (Aes.keys key) nonce aside text) ∧ Below w.heap.size w w' := by
  have Hn := hd hn
  clear hn
  obtain ⟨L, HL⟩ : ∃ l, Hd (Gcm.lock (Aes.keys key) nonce aside text = l) := ⟨_, ⟨rfl⟩⟩
  rw [HL.out]
  have hB0 := (Below.refl w.heap.size w).alloc (Nat.le_refl _) (.cells (arr nonce) 27)
  have b0 : Blk (w.alloc (.cells (arr nonce) 27)) w.heap.size 27 (arr nonce) := Blk.nu rfl
  go_enter Tryd.func14, Tryd.ntmps14
  go_wp2_with fail
  refine (may_256 A c _).mono ?_
  rintro e w1 ⟨rfl, hB1⟩
  have b1 := b0.below hB1 b0.lt
  have hB2 := hB0.trans (hB1.mono hB0.size)
  unfold Suite.l256
  go_wp2_with (first | rw [sealed256_here] | (refine wpl_load_arr rfl 27 _ rfl _ rfl 12 ty12 nonce Hn.out b1.cells_arr ?_) | (go_at_call 111; refine (sealed_256 A c key nonce Hn.out D p q aside E m d text _ (hr.onward hB2) (ha.onward hB2) hpq (ht.onward hB2) hmd hs).mono ?_; rintro e w3 ⟨v, rfl, own, hB3⟩; rw [HL.out] at own; have hB4 := hB2.trans (hB3.mono hB2.size); have hle := hB2.size))
  go_ret2
  exact ⟨v, rfl, own.lower hle, hB4⟩
set_option maxHeartbeats 2000000 in
set_option maxRecDepth 100000 in
theorem suiteOpen_256 (A : Option Addr) (c : Nat) (key nonce : List UInt8) (hn : nonce.length = 12) (D : Option Addr) (p q : Nat) (aside : List UInt8) (E : Option Addr) (m d : Nat) (text : List UInt8) (w : World) (hr : ReadsB w w.heap.size A 32 key)
    (ha : ReadsB w w.heap.size D p aside) (hpq : p ≤ q) (ht : ReadsB w w.heap.size E m text) (hmd : m ≤ d) (hs : p + m ≤ 140737488355200) :
    Calls Tryd.prog 18 #[.int .u16 4866, .slice A 32 c, .agg (arr nonce), .slice D p q, .slice E m d] w fun e w' => OpenedE 103 w (Gcm.unlock (Aes.keys key) nonce aside text) e w' := by
  have Hn := hd hn
  clear hn
  obtain ⟨L, HL⟩ : ∃ l, Hd (Gcm.unlock (Aes.keys key) nonce aside text = l) := ⟨_, ⟨rfl⟩⟩
  rw [HL.out]
  have hB0 := (Below.refl w.heap.size w).alloc (Nat.le_refl _) (.cells (arr nonce) 27)
  have b0 : Blk (w.alloc (.cells (arr nonce) 27)) w.heap.size 27 (arr nonce) := Blk.nu rfl
  go_enter Tryd.func18, Tryd.ntmps18
  go_wp2_with fail
  refine (may_256 A c _).mono ?_
  rintro e w1 ⟨rfl, hB1⟩
  have b1 := b0.below hB1 b0.lt
  have hB2 := hB0.trans (hB1.mono hB0.size)
  unfold Suite.l256
  go_wp2_with (first | rw [opened256_here] | (refine wpl_load_arr rfl 27 _ rfl _ rfl 12 ty12 nonce Hn.out b1.cells_arr ?_))
  refine (opened_256 A c key nonce Hn.out D p q aside E m d text _ (hr.onward hB2) (ha.onward hB2) hpq (ht.onward hB2) hmd hs).mono ?_
  intro e w3 hO
  have hO := hO.low hB2
  rw [HL.out] at hO
  cases L with
  | none =>
    obtain ⟨rfl, hB⟩ := hO
    go_wp2
    go_ret2
    exact ⟨rfl, hB⟩
  | some l =>
    obtain ⟨v, rfl, own, hB⟩ := hO
    go_wp2
    go_ret2
    exact ⟨v, rfl, own, hB⟩
set_option maxHeartbeats 2000000 in
set_option maxRecDepth 100000 in
theorem suiteSealNot_256 (A : Option Addr) (n c : Nat) (hk : ¬ n = 32) (nonce : List UInt8) (X Y : Value) (w : World) :
    Calls Tryd.prog 14 #[.int .u16 4866, .slice A n c, .agg (arr nonce), X, Y] w fun e w' => e = .returned (.tuple #[.slice none 0 0, .int .i64 102]) ∧ Below w.heap.size w w' := by
  have hB0 := (Below.refl w.heap.size w).alloc (Nat.le_refl _) (.cells (arr nonce) 27)
  go_enter Tryd.func14, Tryd.ntmps14
  go_wp2_with (go_at_call 25; refine (mayNot_256 A n c hk _).mono ?_; rintro e w1 ⟨rfl, hB1⟩)
  go_ret2
  exact ⟨rfl, hB0.trans (hB1.mono hB0.size)⟩
set_option maxHeartbeats 2000000 in
set_option maxRecDepth 100000 in
theorem suiteOpenNot_256 (A : Option Addr) (n c : Nat) (hk : ¬ n = 32) (nonce : List UInt8) (X Y : Value) (w : World) :
    Calls Tryd.prog 18 #[.int .u16 4866, .slice A n c, .agg (arr nonce), X, Y] w fun e w' => e = .returned (.tuple #[.slice none 0 0, .int .i64 102]) ∧ Below w.heap.size w w' := by
  have hB0 := (Below.refl w.heap.size w).alloc (Nat.le_refl _) (.cells (arr nonce) 27)
  go_enter Tryd.func18, Tryd.ntmps18
  go_wp2_with (go_at_call 25; refine (mayNot_256 A n c hk _).mono ?_; rintro e w1 ⟨rfl, hB1⟩)
  go_ret2
  exact ⟨rfl, hB0.trans (hB1.mono hB0.size)⟩
set_option maxHeartbeats 2000000 in
set_option maxRecDepth 100000 in
theorem suiteSeal_cha' (A : Option Addr) (c : Nat) (key nonce : List UInt8) (hn : nonce.length = 12) (D : Option Addr) (p q : Nat) (aside : List UInt8) (E : Option Addr) (m d : Nat) (text : List UInt8) (w : World) (hr : ReadsB w w.heap.size A 32 key)
    (ha : ReadsB w w.heap.size D p aside) (hpq : p ≤ q) (ht : ReadsB w w.heap.size E m text) (hmd : m ≤ d) (hs : p + m ≤ 140737488355200) :
    Calls Tryd.prog 14 #[.int .u16 4867, .slice A 32 c, .agg (arr nonce), .slice D p q, .slice E m d] w fun e w' => ∃ v, e = .returned (.tuple #[v, .int .i64 0]) ∧ OwnB w' w.heap.size v (Cha.lock key nonce aside text) ∧ Below w.heap.size w w' := by
  have Hn := hd hn
  clear hn
  obtain ⟨L, HL⟩ : ∃ l, Hd (Cha.lock key nonce aside text = l) := ⟨_, ⟨rfl⟩⟩
  rw [HL.out]
  have hB0 := (Below.refl w.heap.size w).alloc (Nat.le_refl _) (.cells (arr nonce) 27)
  have b0 : Blk (w.alloc (.cells (arr nonce) 27)) w.heap.size 27 (arr nonce) := Blk.nu rfl
  go_enter Tryd.func14, Tryd.ntmps14
  go_wp2_with fail
  refine (may_cha A c _).mono ?_
  rintro e w1 ⟨rfl, hB1⟩
  have b1 := b0.below hB1 b0.lt
  have hB2 := hB0.trans (hB1.mono hB0.size)
  unfold Suite.lcha
  go_wp2_with (first | rw [sealed256_here] | (refine wpl_load_arr rfl 27 _ rfl _ rfl 12 ty12 nonce Hn.out b1.cells_arr ?_) | (go_at_call 111; refine (sealed_cha A c key nonce Hn.out D p q aside E m d text _ (hr.onward hB2) (ha.onward hB2) hpq (ht.onward hB2) hmd hs).mono ?_; rintro e w3 ⟨v, rfl, own, hB3⟩; rw [HL.out] at own; have hB4 := hB2.trans (hB3.mono hB2.size); have hle := hB2.size))
  go_ret2
  exact ⟨v, rfl, own.lower hle, hB4⟩
set_option maxHeartbeats 2000000 in
set_option maxRecDepth 100000 in
theorem suiteOpen_cha (A : Option Addr) (c : Nat) (key nonce : List UInt8) (hn : nonce.length = 12) (D : Option Addr) (p q : Nat) (aside : List UInt8) (E : Option Addr) (m d : Nat) (text : List UInt8) (w : World) (hr : ReadsB w w.heap.size A 32 key)
    (ha : ReadsB w w.heap.size D p aside) (hpq : p ≤ q) (ht : ReadsB w w.heap.size E m text) (hmd : m ≤ d) (hs : p + m ≤ 140737488355200) :
    Calls Tryd.prog 18 #[.int .u16 4867, .slice A 32 c, .agg (arr nonce), .slice D p q, .slice E m d] w fun e w' => OpenedE 103 w (Cha.unlock key nonce aside text) e w' := by
  have Hn := hd hn
  clear hn
  obtain ⟨L, HL⟩ : ∃ l, Hd (Cha.unlock key nonce aside text = l) := ⟨_, ⟨rfl⟩⟩
  rw [HL.out]
  have hB0 := (Below.refl w.heap.size w).alloc (Nat.le_refl _) (.cells (arr nonce) 27)
  have b0 : Blk (w.alloc (.cells (arr nonce) 27)) w.heap.size 27 (arr nonce) := Blk.nu rfl
  go_enter Tryd.func18, Tryd.ntmps18
  go_wp2_with fail
  refine (may_cha A c _).mono ?_
  rintro e w1 ⟨rfl, hB1⟩
  have b1 := b0.below hB1 b0.lt
  have hB2 := hB0.trans (hB1.mono hB0.size)
  unfold Suite.lcha
  go_wp2_with (first | rw [opened256_here] | (refine wpl_load_arr rfl 27 _ rfl _ rfl 12 ty12 nonce Hn.out b1.cells_arr ?_))
  refine (opened_cha A c key nonce Hn.out D p q aside E m d text _ (hr.onward hB2) (ha.onward hB2) hpq (ht.onward hB2) hmd hs).mono ?_
  intro e w3 hO
  have hO := hO.low hB2
  rw [HL.out] at hO
  cases L with
  | none =>
    obtain ⟨rfl, hB⟩ := hO
    go_wp2
    go_ret2
    exact ⟨rfl, hB⟩
  | some l =>
    obtain ⟨v, rfl, own, hB⟩ := hO
    go_wp2
    go_ret2
    exact ⟨v, rfl, own, hB⟩
set_option maxHeartbeats 2000000 in
set_option maxRecDepth 100000 in
theorem suiteSealNot_cha (A : Option Addr) (n c : Nat) (hk : ¬ n = 32) (nonce : List UInt8) (X Y : Value) (w : World) :
    Calls Tryd.prog 14 #[.int .u16 4867, .slice A n c, .agg (arr nonce), X, Y] w fun e w' => e = .returned (.tuple #[.slice none 0 0, .int .i64 102]) ∧ Below w.heap.size w w' := by
  have hB0 := (Below.refl w.heap.size w).alloc (Nat.le_refl _) (.cells (arr nonce) 27)
  go_enter Tryd.func14, Tryd.ntmps14
  go_wp2_with (go_at_call 25; refine (mayNot_cha A n c hk _).mono ?_; rintro e w1 ⟨rfl, hB1⟩)
  go_ret2
  exact ⟨rfl, hB0.trans (hB1.mono hB0.size)⟩
set_option maxHeartbeats 2000000 in
set_option maxRecDepth 100000 in
theorem suiteOpenNot_cha (A : Option Addr) (n c : Nat) (hk : ¬ n = 32) (nonce : List UInt8) (X Y : Value) (w : World) :
    Calls Tryd.prog 18 #[.int .u16 4867, .slice A n c, .agg (arr nonce), X, Y] w fun e w' => e = .returned (.tuple #[.slice none 0 0, .int .i64 102]) ∧ Below w.heap.size w w' := by
  have hB0 := (Below.refl w.heap.size w).alloc (Nat.le_refl _) (.cells (arr nonce) 27)
  go_enter Tryd.func18, Tryd.ntmps18
  go_wp2_with (go_at_call 25; refine (mayNot_cha A n c hk _).mono ?_; rintro e w1 ⟨rfl, hB1⟩)
  go_ret2
  exact ⟨rfl, hB0.trans (hB1.mono hB0.size)⟩
set_option maxHeartbeats 2000000 in
set_option maxRecDepth 100000 in
theorem suiteSealNone (s : UInt16) (h1 : (s == 4865) = false) (h2 : (s == 4866) = false) (h3 : (s == 4867) = false) (A : Option Addr) (n c : Nat) (nonce : List UInt8) (X Y : Value) (w : World) :
    Calls Tryd.prog 14 #[.int .u16 ((n16 s : Nat) : Int), .slice A n c, .agg (arr nonce), X, Y] w fun e w' => e = .returned (.tuple #[.slice none 0 0, .int .i64 101]) ∧ Below w.heap.size w w' := by
  have hB0 := (Below.refl w.heap.size w).alloc (Nat.le_refl _) (.cells (arr nonce) 27)
  go_enter Tryd.func14, Tryd.ntmps14
  go_wp2_with (go_at_call 25; refine (mayNone s h1 h2 h3 A n c _).mono ?_; rintro e w1 ⟨rfl, hB1⟩)
  go_ret2
  exact ⟨rfl, hB0.trans (hB1.mono hB0.size)⟩
set_option maxHeartbeats 2000000 in
set_option maxRecDepth 100000 in
theorem suiteOpenNone (s : UInt16) (h1 : (s == 4865) = false) (h2 : (s == 4866) = false) (h3 : (s == 4867) = false) (A : Option Addr) (n c : Nat) (nonce : List UInt8) (X Y : Value) (w : World) :
    Calls Tryd.prog 18 #[.int .u16 ((n16 s : Nat) : Int), .slice A n c, .agg (arr nonce), X, Y] w fun e w' => e = .returned (.tuple #[.slice none 0 0, .int .i64 101]) ∧ Below w.heap.size w w' := by
  have hB0 := (Below.refl w.heap.size w).alloc (Nat.le_refl _) (.cells (arr nonce) 27)
  go_enter Tryd.func18, Tryd.ntmps18
  go_wp2_with (go_at_call 25; refine (mayNone s h1 h2 h3 A n c _).mono ?_; rintro e w1 ⟨rfl, hB1⟩)
  go_ret2
  exact ⟨rfl, hB0.trans (hB1.mono hB0.size)⟩
end Go.Proofs.YthigbggacgiamaaDoor
