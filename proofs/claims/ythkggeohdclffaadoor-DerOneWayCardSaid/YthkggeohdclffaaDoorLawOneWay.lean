/-
  The walk of DerOneWay.
-/
import Derived.Test.YthkggeohdclffaaDoorDerF
import Derived.Test.YthkggeohdclffaaDoorDerLaw
import Derived.Deep.DeepCutAuto
set_option linter.unusedVariables false
set_option linter.unusedSimpArgs false
set_option maxRecDepth 100000
namespace Go.Proofs.YthkggeohdclffaaDoor
open Go.RowKit
theorem run_fieldAddr3 {o : Oper} {ρ : Operand → Value} {x : Operand} (ho : o.op = .fieldAddr 25 x 3) (z : Nat) (hx : ρ x = .pointer (some ⟨z, 0, none⟩)) (w : World) : (execOp ρ o).run Tryd.prog w = .ok (.value (.pointer (some ⟨z, 3, none⟩))) w := by
  have h : ∀ w, (Instr.fieldAt 25 (.pointer (some ⟨z, 0, none⟩)) 3).run Tryd.prog w = .ok (.pointer (some ⟨z, 3, none⟩)) w := fun _ => by kernel_rfl
  unfold execOp
  simp only [ho, hx]
  simp [h]
theorem run_load_int {w : World} {o : Oper} {ρ : Operand → Value} {x : Operand} (ho : o.op = .load 3 x) {ad : Addr} (hx : ρ x = .pointer (some ad)) {v : Value} (hc : w.cell? ad = some v) : (execOp ρ o).run Tryd.prog w = .ok (.value v) w :=
  run_execOp_load ho hx (by simp [loadVar, go_sem, hc])
set_option maxHeartbeats 16000000 in
set_option maxRecDepth 100000 in
theorem oneway_law (A0 : Option Addr) (n0 c0 : Nat) (b : List UInt8) (tag : UInt8) (A2 : Option Addr) (n2 c2 : Nat) (body : List UInt8) (w : World) (hr0 : ReadsB w w.heap.size A0 n0 b) (hc0 : n0 ≤ c0) (hn0 : n0 ≤ 140737488351232) (hr2 : ReadsB w w.heap.size A2 n2 body) (hc2 : n2 ≤ c2) (hn2 : n2 ≤ 140737488351232) (htab : Lib.TabIs Tryd.prog w "internal/strconv.uint64pow10" .u64 Lib.pow10Tab) :
    Calls Tryd.prog 3 #[.slice A0 n0 c0, .int .u8 ((n8 tag : Nat) : Int), .slice A2 n2 c2] w fun e w' => e = .returned (.bool true) ∧ Below w.heap.size w w' := by
  have Hl0 := hd hr0.len
  have Hl2 := hd hr2.len
  have rd0 := hd (fun W (hW : Below w.heap.size w W) => (⟨hr0.len, (hr0.is.below hW).more hW.size⟩ : ReadsB W W.heap.size A0 n0 b))
  have rd2 := hd (fun W (hW : Below w.heap.size w W) => (⟨hr2.len, (hr2.is.below hW).more hW.size⟩ : ReadsB W W.heap.size A2 n2 body))
  obtain ⟨⟨T, BD, a0, LN, er⟩, HX⟩ : ∃ X, Hd (Der.next b 0 = X) := ⟨_, ⟨rfl⟩⟩
  obtain ⟨nB, HnB⟩ : ∃ x, Hd (BD.length = x) := ⟨_, ⟨rfl⟩⟩
  go_enter Tryd.func3, Tryd.ntmps3
  go_upto_if 23 with (first | (refine wpl_store_it rfl rfl _ _ rfl w2.heap.size T A3 nB c3 a0 (LN : Int) rfl rfl _ (Blk.nu rfl) rfl ?_; refine wpl_name (fun wo => Blk wo w2.heap.size 25 (itemCells T (.slice A3 nB c3) a0 (LN : Int)) ∧ Below w2.heap.size w2 wo) ⟨(Blk.nu rfl).setRow _, below_setRow ((Below.refl _ _).alloc (Nat.le_refl _) _) (Nat.le_refl _) _⟩ ?_; rintro w3 ⟨bw3, hBw3⟩; have hw3 := hw2.trans (hBw3.mono hw2.size); have r3 : ReadsB w3 w3.heap.size A3 nB BD := ⟨HnB.out, (own2.reads_any.2.is.below hBw3).more hBw3.size⟩; clear own2) | (refine wpl_alloc rfl 25 rfl _ zeroIt ?_) | (go_at_call 8; refine (next_any A0 n0 c0 b 0 w1 (rd0.out w1 hw1) hc0 (by omega)).mono ?_; rw [HX.out]; rintro e w2 ⟨A3, c3, rfl, own2, hB2⟩; simp only [HnB.out] at own2 ⊢; have hw2 := hw1.trans (hB2.mono hw1.size)) | (go_at_call 7; refine (head14_any w htab).mono ?_; rintro e w1 ⟨rfl, hw1⟩))
  obtain ⟨z, Hz⟩ : ∃ x, Hd (w2.heap.size = x) := ⟨_, ⟨rfl⟩⟩
  rw [Hz.out] at bw3 ⊢
  have bx := bw3
  clear bw3
  go_cut [] (fun wx => Below w.heap.size w wx)
  case first =>
    by_cases he : er = 0
    · subst he
      have hlaw := Der.next_put b (by rw [HX.out])
      rw [HX.out] at hlaw
      obtain ⟨PB, HPB⟩ : ∃ x, Hd (Der.put T BD = x) := ⟨_, ⟨rfl⟩⟩
      have HPe := hd (show PB = b.take LN by rw [← HPB.out]; exact hlaw.2)
      have hLN : LN ≤ n0 := by have := hlaw.1; rw [Hl0.out] at this; exact this
      have hnB : nB ≤ 140737488350000 ∨ True := .inr trivial
      clear hlaw hnB
      have ct : w3.cell? ⟨z, 0, none⟩ = some (.int .u8 ((n8 T : Nat) : Int)) := bx.cell 0
      have cb : w3.cell? ⟨z, 1, none⟩ = some (.slice A3 nB c3) := bx.cell 1
      obtain ⟨nP, HnP⟩ : ∃ x, Hd (PB.length = x) := ⟨_, ⟨rfl⟩⟩
      have hnB : nB ≤ n0 := by
        have h1 := nextBody_le b
        rw [HX.out, HnB.out, Hl0.out] at h1
        exact h1
      have hp4 := hd (parts_one (c := c3) r3 (by omega))
      have hA4 : Below w3.heap.size w3 (w3.alloc (.cells #[.slice A3 nB c3] 22)) := (Below.refl _ _).alloc (Nat.le_refl _) _
      have HA4 := hd hA4
      clear hA4
      go_upto_region 5 with (first | (go_at_call 9; refine (put_any T (some ⟨w3.heap.size, 0, none⟩) 1 1 [⟨A3, nB, c3, BD⟩] _ hp4.out (by omega) (by rw [joined_one]; show BD.length ≤ _; rw [HnB.out]; omega)).mono ?_; rintro e w5 ⟨v5, rfl, own5, hB5⟩; rw [joined_one] at own5; replace own5 : OwnB w5 _ v5 (Der.put T BD) := own5; rw [HPB.out] at own5; obtain ⟨A4, c4, e4⟩ := own5.slice; rw [HnP.out] at e4; subst e4))
      have hB35 := HA4.out.trans (hB5.mono HA4.out.size)
      have hw5 := hw3.trans (hB35.mono hw3.size)
      have bx5 := bx.below hB35 bx.lt
      have r5 : ReadsB w5 w5.heap.size A4 nP PB := ⟨HnP.out, own5.reads_any.2.is⟩
      have r0L : ReadsB w5 w5.heap.size A0 LN PB := by rw [HPe.out]; exact (rd0.out w5 hw5).take hLN
      have tL : ¬ (n0 : Int) < (LN : Int) := by omega
      clear own5 hB5
      refine p_start (fun W => Below w5.heap.size w5 W) (by kernel_rfl) (Below.refl _ _).drew ?_
      refine p_take 0 (o := _) rfl (by kernel_rfl) (by kernel_rfl) (by kernel_rfl) (wanted_plain rfl) (.pointer (some ⟨z, 3, none⟩)) (fun _ _ _ h => h) (fun W hW => run_fieldAddr3 (by rfl) _ (by simp [Act.eval]) W) ?_
      simp only [Act.put, List.getElem_toArray, List.getElem_cons_succ, List.getElem_cons_zero, List.setIfInBounds_toArray, List.set_cons_zero, List.set_cons_succ]
      refine p_take 1 (o := _) rfl (by kernel_rfl) (by kernel_rfl) (by kernel_rfl) (wanted_plain rfl) (.int .i64 (LN : Int)) (fun _ _ _ h => h) (fun W hW => run_load_int (by rfl) (by simp [Act.eval]) ((hW.cell (p := ⟨z, 3, none⟩) bx5.lt).trans (bx5.cell 3))) ?_
      simp only [Act.put, List.getElem_toArray, List.getElem_cons_succ, List.getElem_cons_zero, List.setIfInBounds_toArray, List.set_cons_zero, List.set_cons_succ]
      refine p_take 2 (o := _) rfl (by kernel_rfl) (by kernel_rfl) (by kernel_rfl) (wanted_plain rfl) (.slice A0 n0 c0) (fun _ _ _ h => h) (fun W hW => run_move (by rfl) (by simp [Act.eval]) W) ?_
      simp only [Act.put, List.getElem_toArray, List.getElem_cons_succ, List.getElem_cons_zero, List.setIfInBounds_toArray, List.set_cons_zero, List.set_cons_succ]
      refine p_take 3 (o := _) rfl (by kernel_rfl) (by kernel_rfl) (by kernel_rfl) (wanted_plain rfl) (.int .i64 (n0 : Int)) (fun _ _ _ h => h) (fun W hW => by go_simp) ?_
      simp only [Act.put, List.getElem_toArray, List.getElem_cons_succ, List.getElem_cons_zero, List.setIfInBounds_toArray, List.set_cons_zero, List.set_cons_succ]
      refine p_take 4 (o := _) rfl (by kernel_rfl) (by kernel_rfl) (by kernel_rfl) (wanted_plain rfl) (.bool false) (fun _ _ _ h => h) (fun W hW => by go_simp) ?_
      simp only [Act.put, List.getElem_toArray, List.getElem_cons_succ, List.getElem_cons_zero, List.setIfInBounds_toArray, List.set_cons_zero, List.set_cons_succ]
      refine p_take 5 (o := _) rfl (by kernel_rfl) (by kernel_rfl) (by kernel_rfl) (wanted_plain rfl) (.bool false) (fun _ _ _ h => h) (fun W hW => run_move (by rfl) (by simp [Act.eval]) W) ?_
      simp only [Act.put, List.getElem_toArray, List.getElem_cons_succ, List.getElem_cons_zero, List.setIfInBounds_toArray, List.set_cons_zero, List.set_cons_succ]
      refine p_take 6 (o := _) rfl (by kernel_rfl) (by kernel_rfl) (by kernel_rfl) (by simp [Region.wanted, yielded]) (.slice A4 nP c4) (fun _ _ _ h => h) (fun W hW => run_move (by rfl) (by simp [Act.eval]) W) ?_
      simp only [Act.put, List.getElem_toArray, List.getElem_cons_succ, List.getElem_cons_zero, List.setIfInBounds_toArray, List.set_cons_zero, List.set_cons_succ]
      refine p_take 7 (o := _) rfl (by kernel_rfl) (by kernel_rfl) (by kernel_rfl) (by simp [Region.wanted, yielded]) (.string (str PB)) (fun _ _ _ h => h) (fun W hW => run_toStr (by rfl) Tryd.underlying22 Tryd.underlying5 Tryd.underlying9 _ A4 nP c4 PB (by simp [Act.eval]) (⟨r5.len, (r5.is.below hW).more hW.size⟩)) ?_
      simp only [Act.put, List.getElem_toArray, List.getElem_cons_succ, List.getElem_cons_zero, List.setIfInBounds_toArray, List.set_cons_zero, List.set_cons_succ]
      refine p_take 8 (o := _) rfl (by kernel_rfl) (by kernel_rfl) (by kernel_rfl) (by simp [Region.wanted, yielded]) (.slice A0 n0 c0) (fun _ _ _ h => h) (fun W hW => run_move (by rfl) (by simp [Act.eval]) W) ?_
      simp only [Act.put, List.getElem_toArray, List.getElem_cons_succ, List.getElem_cons_zero, List.setIfInBounds_toArray, List.set_cons_zero, List.set_cons_succ]
      refine p_take 9 (o := _) rfl (by kernel_rfl) (by kernel_rfl) (by kernel_rfl) (by simp [Region.wanted, yielded]) (.pointer (some ⟨z, 3, none⟩)) (fun _ _ _ h => h) (fun W hW => run_fieldAddr3 (by rfl) _ (by simp [Act.eval]) W) ?_
      simp only [Act.put, List.getElem_toArray, List.getElem_cons_succ, List.getElem_cons_zero, List.setIfInBounds_toArray, List.set_cons_zero, List.set_cons_succ]
      refine p_take 10 (o := _) rfl (by kernel_rfl) (by kernel_rfl) (by kernel_rfl) (by simp [Region.wanted, yielded]) (.int .i64 (LN : Int)) (fun _ _ _ h => h) (fun W hW => run_load_int (by rfl) (by simp [Act.eval]) ((hW.cell (p := ⟨z, 3, none⟩) bx5.lt).trans (bx5.cell 3))) ?_
      simp only [Act.put, List.getElem_toArray, List.getElem_cons_succ, List.getElem_cons_zero, List.setIfInBounds_toArray, List.set_cons_zero, List.set_cons_succ]
      refine p_take 11 (o := _) rfl (by kernel_rfl) (by kernel_rfl) (by kernel_rfl) (by simp [Region.wanted, yielded]) (.slice A0 LN c0) (fun _ _ _ h => h) (fun W hW => run_slice_to (by rfl) Tryd.underlying22 u8_cell1 A0 n0 c0 LN (by simp [Act.eval]) (by simp [Act.eval]) (by omega)) ?_
      simp only [Act.put, List.getElem_toArray, List.getElem_cons_succ, List.getElem_cons_zero, List.setIfInBounds_toArray, List.set_cons_zero, List.set_cons_succ]
      refine p_take 12 (o := _) rfl (by kernel_rfl) (by kernel_rfl) (by kernel_rfl) (by simp [Region.wanted, yielded]) (.string (str PB)) (fun _ _ _ h => h) (fun W hW => run_toStr (by rfl) Tryd.underlying22 Tryd.underlying5 Tryd.underlying9 _ A0 LN c0 PB (by simp [Act.eval]) (⟨r0L.len, (r0L.is.below hW).more hW.size⟩)) ?_
      simp only [Act.put, List.getElem_toArray, List.getElem_cons_succ, List.getElem_cons_zero, List.setIfInBounds_toArray, List.set_cons_zero, List.set_cons_succ]
      refine p_take 13 (o := _) rfl (by kernel_rfl) (by kernel_rfl) (by kernel_rfl) (by simp [Region.wanted, yielded]) (.bool false) (fun _ _ _ h => h) (fun W hW => run_neqF (by rfl) PB PB (rfl) (by simp [Act.eval]) (by simp [Act.eval]) W) ?_
      simp only [Act.put, List.getElem_toArray, List.getElem_cons_succ, List.getElem_cons_zero, List.setIfInBounds_toArray, List.set_cons_zero, List.set_cons_succ]
      refine p_take 14 (o := _) rfl (by kernel_rfl) (by kernel_rfl) (by kernel_rfl) (wanted_plain rfl) (.bool false) (fun _ _ _ h => h) (fun W hW => run_pick (b := false) (by rfl) (by simp [Act.eval]) (by simp [Act.eval]) W) ?_
      simp only [Act.put, List.getElem_toArray, List.getElem_cons_succ, List.getElem_cons_zero, List.setIfInBounds_toArray, List.set_cons_zero, List.set_cons_succ]
      refine p_done (by kernel_rfl) (fun W hW => ?_) _
      go_wp2
      go_meet
      exact hw5.trans (hW.mono hw5.size)
    · go_wp2
      go_meet
      exact hw3
  case rest =>
  have hw4 := hcut
  obtain ⟨w4, rfl⟩ : ∃ w4 : World, w4 = wc := ⟨_, rfl⟩
  clear hcut bx r3 hw3 hw2
  obtain ⟨PW, HPW⟩ : ∃ x, Hd (Der.put tag body = x) := ⟨_, ⟨rfl⟩⟩
  obtain ⟨nW, HnW⟩ : ∃ x, Hd (PW.length = x) := ⟨_, ⟨rfl⟩⟩
  have hp6 := hd (parts_one (c := c2) (rd2.out w4 hw4) (by omega))
  have HA6 := hd (show Below w4.heap.size w4 (w4.alloc (.cells #[.slice A2 n2 c2] 22)) from (Below.refl _ _).alloc (Nat.le_refl _) _)
  have PUT := hd (put_any tag (some ⟨w4.heap.size, 0, none⟩) 1 1 [⟨A2, n2, c2, body⟩] _ hp6.out (by omega) (by rw [joined_one]; show body.length ≤ _; rw [Hl2.out]; omega))
  by_cases hbad : tag &&& 31 = 31 ∨ 65535 < body.length
  · have HP0 := hd (show nW = 0 by rw [← HnW.out, ← HPW.out, Der.put_no tag body hbad]; rfl)
    by_cases h1 : tag &&& 31 = 31
    · have q1 : (tag &&& 31 == 31) = true := by simpa using h1
      clear hbad
      go_wp2_with (first | (go_at_call 9; refine PUT.out.mono ?_; rintro e w6 ⟨v6, rfl, own6, hB6⟩; rw [joined_one] at own6; replace own6 : OwnB w6 _ v6 (Der.put tag body) := own6; rw [HPW.out] at own6; obtain ⟨A6, c6, e6⟩ := own6.slice; rw [HnW.out, HP0.out] at e6; subst e6))
      go_ret
      have h46 := HA6.out.trans (hB6.mono HA6.out.size)
      exact ⟨rfl, hw4.trans (h46.mono hw4.size)⟩
    · have q1 : (tag &&& 31 == 31) = false := by simpa using h1
      have t2 : (65535 : Int) < (n2 : Int) := by have h2 := hbad.resolve_left h1; rw [Hl2.out] at h2; omega
      clear hbad
      go_wp2_with (first | (go_at_call 9; refine PUT.out.mono ?_; rintro e w6 ⟨v6, rfl, own6, hB6⟩; rw [joined_one] at own6; replace own6 : OwnB w6 _ v6 (Der.put tag body) := own6; rw [HPW.out] at own6; obtain ⟨A6, c6, e6⟩ := own6.slice; rw [HnW.out, HP0.out] at e6; subst e6))
      go_ret
      have h46 := HA6.out.trans (hB6.mono HA6.out.size)
      exact ⟨rfl, hw4.trans (h46.mono hw4.size)⟩
  · have HB := hd hbad
    have q1 : (tag &&& 31 == 31) = false := by simpa using fun e => hbad (.inl e)
    have t2 : ¬ (65535 : Int) < (n2 : Int) := by intro h; exact hbad (.inr (by rw [Hl2.out]; omega))
    have hn2' : n2 ≤ 65535 := by omega
    clear hbad
    have HN1 := hd (show Der.next PW 0 = ⟨tag, body, 0, nW, 0⟩ by rw [← HnW.out, ← HPW.out]; exact Der.put_next tag body HB.out)
    have HN2 := hd (show (Der.next (PW.take (nW - 1)) 0).err = 141 by rw [← HnW.out, ← HPW.out]; exact Der.put_short tag body HB.out)
    have hW1 : 1 ≤ nW ∧ nW ≤ 65550 := by
      rw [← HnW.out, ← HPW.out, Der.put_is tag body HB.out]
      have : (Der.lenOf body.length).length ≤ 3 := by unfold Der.lenOf; split <;> (try split) <;> simp
      simp only [List.length_cons, List.length_append]
      rw [Hl2.out] at this ⊢
      omega
    obtain ⟨SH, HSH⟩ : ∃ x, Hd (PW.take (nW - 1) = x) := ⟨_, ⟨rfl⟩⟩
    rw [HSH.out] at HN2
    obtain ⟨⟨T2, BD2, a2, LN2, er2⟩, HX2⟩ : ∃ X, Hd (Der.next SH 0 = X) := ⟨_, ⟨rfl⟩⟩
    rw [HX2.out] at HN2
    have HN3 := hd (show er2 = 141 from HN2.out)
    have wk : IntKind.i64.wrap ((nW : Int) - 1) = ((nW - 1 : Nat) : Int) := by rw [IntWalk.i64_in _ (by omega)]; omega
    obtain ⟨nB2, HnB2⟩ : ∃ x, Hd (BD2.length = x) := ⟨_, ⟨rfl⟩⟩
    go_wp2_with (first | (refine wpl_store_it rfl rfl _ _ rfl w9.heap.size T2 A10 nB2 c10 a2 (LN2 : Int) rfl rfl _ (Blk.nu rfl) rfl ?_; refine wpl_name (fun wo => Blk wo w9.heap.size 25 (itemCells T2 (.slice A10 nB2 c10) a2 (LN2 : Int)) ∧ Below w9.heap.size w9 wo) ⟨(Blk.nu rfl).setRow _, below_setRow ((Below.refl _ _).alloc (Nat.le_refl _) _) (Nat.le_refl _) _⟩ ?_; rintro w10 ⟨bw10, hBw10⟩; have hw10 := hw9.trans (hBw10.mono hw9.size)) | (go_at_call 8; refine (next_any A6 (nW - 1) c6 SH 0 w8 r8S (by omega) (by omega)).mono ?_; rw [HX2.out, HN3.out]; rintro e w9 ⟨A10, c10, rfl, own9, hB9⟩; simp only [HnB2.out] at own9 ⊢; have hw9 := hw8.trans (hB9.mono hw8.size)) | (refine wpl_run (o := ⟨some 96, _, _, _, _, _⟩) (by simp [Region.wanted, yielded, Act.put]) (.slice A6 (nW - 1) c6) (run_slice_to (by rfl) Tryd.underlying22 u8_cell1 A6 nW c6 (nW - 1) (by simp [Act.eval, Act.put]) (by simp [Act.eval, Act.put]) (by omega)) ?_) | (refine wpl_run (o := ⟨some 82, _, _, _, _, _⟩) (by simp [Region.wanted, yielded, Act.put]) (.bool false) (run_neqF (by rfl) body body rfl (by simp [Act.eval, Act.put]) (by simp [Act.eval, Act.put]) _) ?_) | (refine wpl_run (o := ⟨some 81, _, _, _, _, _⟩) (by simp [Region.wanted, yielded, Act.put]) (.string (str body)) (run_toStr (by rfl) Tryd.underlying22 Tryd.underlying5 Tryd.underlying9 _ A2 n2 c2 body (by simp [Act.eval, Act.put]) (rd2.out w8 hw8)) ?_) | (refine wpl_run (o := ⟨some 79, _, _, _, _, _⟩) (by simp [Region.wanted, yielded, Act.put]) (.string (str body)) (run_toStr (by rfl) Tryd.underlying22 Tryd.underlying5 Tryd.underlying9 _ A7 n2 c7 body (by simp [Act.eval, Act.put]) r8) ?_) | (refine wpl_store_it rfl rfl _ _ rfl w7.heap.size tag A7 n2 c7 0 (nW : Int) rfl rfl _ (Blk.nu rfl) rfl ?_; refine wpl_name (fun wo => Blk wo w7.heap.size 25 (itemCells tag (.slice A7 n2 c7) 0 (nW : Int)) ∧ Below w7.heap.size w7 wo) ⟨(Blk.nu rfl).setRow _, below_setRow ((Below.refl _ _).alloc (Nat.le_refl _) _) (Nat.le_refl _) _⟩ ?_; rintro w8 ⟨bw8, hBw8⟩; have hw8 := hw7.trans (hBw8.mono hw7.size); have r8 : ReadsB w8 w8.heap.size A7 n2 body := ⟨Hl2.out, (own7.reads_any.2.is.below hBw8).more hBw8.size⟩; have d0 : w8.cell? ⟨w7.heap.size, 0, none⟩ = some (.int .u8 ((n8 tag : Nat) : Int)) := bw8.cell 0; have d1 : w8.cell? ⟨w7.heap.size, 1, none⟩ = some (.slice A7 n2 c7) := bw8.cell 1; have d3 : w8.cell? ⟨w7.heap.size, 3, none⟩ = some (.int .i64 (nW : Int)) := bw8.cell 3; have h68 := hB7.trans (hBw8.mono hB7.size); have r8W : ReadsB w8 w8.heap.size A6 nW PW := ⟨r6.len, (r6.is.below h68).more h68.size⟩; have r8S : ReadsB w8 w8.heap.size A6 (nW - 1) SH := (by rw [← HSH.out]; exact r8W.take (by omega)); clear own7 r8W r6) | (refine wpl_alloc rfl 25 rfl _ zeroIt ?_) | (go_at_call 8; refine (next_any A6 nW c6 PW 0 w6 r6 hc6 (by omega)).mono ?_; rw [HN1.out]; rintro e w7 ⟨A7, c7, rfl, own7, hB7⟩; simp only [Hl2.out] at own7 ⊢; have hw7 := hw6.trans (hB7.mono hw6.size)) | (go_at_call 9; refine PUT.out.mono ?_; rintro e w6 ⟨v6, rfl, own6, hB6⟩; rw [joined_one] at own6; replace own6 : OwnB w6 _ v6 (Der.put tag body) := own6; rw [HPW.out] at own6; obtain ⟨A6, c6, e6⟩ := own6.slice; rw [HnW.out] at e6; subst e6; have hc6 := own6.room; have r6 : ReadsB w6 w6.heap.size A6 nW PW := ⟨HnW.out, own6.reads_any.2.is⟩; have h46 := HA6.out.trans (hB6.mono HA6.out.size); have hw6 := hw4.trans (h46.mono hw4.size); clear own6))
    go_ret
    exact ⟨rfl, hw10⟩
end Go.Proofs.YthkggeohdclffaaDoor
