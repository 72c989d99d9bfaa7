/-
  The walk of the statement GcmField.
-/
import Derived.Test.YtbbfckdcfbacpaaGcmH
import Derived.Test.YtbbfckdcfbacpaaGcmLaw
set_option linter.unusedVariables false
set_option linter.unusedSimpArgs false
namespace Go.Proofs.Ytbbfckdcfbacpaa
open Go.RowKit
theorem enter_mul (args : Array Value) (w : World) : (callFunc 22 args).run Try.prog w = .ok (.enter 22 args) w := by kernel_rfl
theorem enter_with8 (args : Array Value) (w : World) : (callFunc 20 args).run Try.prog w = .ok (.enter 20 args) w := by kernel_rfl
theorem run_same16 {o : Oper} {ρ : Operand → Value} {x y : Operand} {rt : TypeId} (ho : o.op = .binOp .eql 32 x y rt) (l m : List UInt8) (h : l = m) (hx : ρ x = .agg (arr l)) (hy : ρ y = .agg (arr m)) (hl : l.length = 16) (hm : m.length = 16) (w : World) :
    (execOp ρ o).run Try.prog w = .ok (.value (.bool true)) w := by rw [run_eql_arr16 ho l m hx hy hl hm, decide_eq_true h]
theorem run_not {P : Program} {o : Oper} {ρ : Operand → Value} {t : TypeId} {x : Operand} (ho : o.op = .unOp .not t x) {b : Bool} (hx : ρ x = .bool b) (w : World) : (execOp ρ o).run P w = .ok (.value (.bool (!b))) w := by
  unfold execOp
  simp only [ho, hx]
  simp [go_sem]
theorem run_build_is {P : Program} {o : Oper} {ρ : Operand → Value} {t : TypeId} {parts : List (Nat × Operand)} (ho : o.op = .build t parts.toArray) (ps : List (Nat × Value)) (hp : parts.map (fun p => (p.1, ρ p.2)) = ps) {cells : Array Value} (hb : P.built t ps = some cells) (w : World) :
    (execOp ρ o).run P w = .ok (.value (.agg cells)) w := by
  have e : (parts.toArray.map fun (i, x) => (i, ρ x)).toList = ps := by rw [← hp]; simp
  unfold execOp
  simp only [ho, Sem.run_bind, run_build w t _ cells (e ▸ hb), Result.andThen_ok, Sem.run_pure]
theorem wpl_valueG {P : Program} {w : World} {o : Oper} {a : Act} {Q : Exit → Act → World → Prop} {ops : Array Oper} {rest : List Oper} {v : Value} (hrun : (execOp a.eval o).run P w = .ok (.value v) w) (hw : Region.wanted o (yielded ops a.tmps) = true)
    (h : wpList P ops Q rest (a.put o.dst v) w) : wpList P ops Q (o :: rest) a w :=
  wpList_step fun K hK => by
    rw [if_pos hw]
    unfold Oper.wp
    rw [hrun]
    exact hK _ _ h
theorem built_one : Try.prog.built 32 [(0, .int .u8 128)] = some (arr Gcm.one) := by kernel_rfl
set_option maxHeartbeats 8000000 in
set_option maxRecDepth 100000 in
theorem field_all (a b c : List UInt8) (w : World) (ha : a.length = 16) (hb : b.length = 16) (hc : c.length = 16) :
    Calls Try.prog 9 #[.agg (arr a), .agg (arr b), .agg (arr c)] w fun e w' => e = .returned (.bool true) ∧ Below w.heap.size w w' := by
  have Ha := hd ha
  have Hb := hd hb
  have Hc := hd hc
  clear ha hb hc
  obtain ⟨ab, Hab⟩ : ∃ x, Hd (Gcm.mul a b = x) := ⟨_, ⟨rfl⟩⟩
  obtain ⟨bc, Hbc⟩ : ∃ x, Hd (Gcm.mul b c = x) := ⟨_, ⟨rfl⟩⟩
  obtain ⟨ac, Hac⟩ : ∃ x, Hd (Gcm.mul a c = x) := ⟨_, ⟨rfl⟩⟩
  obtain ⟨abc, Habc⟩ : ∃ x, Hd (Gcm.mul ab c = x) := ⟨_, ⟨rfl⟩⟩
  obtain ⟨s, Hs⟩ : ∃ x, Hd (Aes.xor16 a b = x) := ⟨_, ⟨rfl⟩⟩
  obtain ⟨sc, Hsc⟩ : ∃ x, Hd (Gcm.mul s c = x) := ⟨_, ⟨rfl⟩⟩
  obtain ⟨e1, He1⟩ : ∃ x, Hd (Gcm.one = x) := ⟨_, ⟨rfl⟩⟩
  have Hba := hd (show Gcm.mul b a = ab by rw [Gcm.mul_comm, Hab.out])
  have Habc2 := hd (show Gcm.mul a bc = abc by rw [← Hbc.out, ← Gcm.mul_assoc, Hab.out, Habc.out])
  have Hsc2 := hd (show Aes.xor16 ac bc = sc by rw [← Hac.out, ← Hbc.out, ← Gcm.mul_xor _ _ _ Ha.out, Hs.out, Hsc.out])
  have Hae1 := hd (show Gcm.mul a e1 = a by rw [← He1.out, Gcm.mul_one a Ha.out])
  have Habl := hd (show ab.length = 16 by rw [← Hab.out]; exact Gcm.mul_len _ _)
  have Hbcl := hd (show bc.length = 16 by rw [← Hbc.out]; exact Gcm.mul_len _ _)
  have Hacl := hd (show ac.length = 16 by rw [← Hac.out]; exact Gcm.mul_len _ _)
  have Habcl := hd (show abc.length = 16 by rw [← Habc.out]; exact Gcm.mul_len _ _)
  have Hsl := hd (show s.length = 16 by rw [← Hs.out, Aes.xor16_len, Ha.out])
  have Hscl := hd (show sc.length = 16 by rw [← Hsc.out]; exact Gcm.mul_len _ _)
  have He1l := hd (show e1.length = 16 by rw [← He1.out]; rfl)
  have hb1 : Try.prog.built 32 [(0, .int .u8 128)] = some (arr e1) := by rw [← He1.out]; exact built_one
  have hB0 := (((Below.refl w.heap.size w).alloc (by simp) (.cells (arr a) 32)).alloc (by simp) (.cells (arr b) 32)).alloc (by simp; omega) (.cells (arr c) 32)
  go_enter Try.func9, Try.ntmps9
  go_wp2_with fail
  refine (head8_any _).mono ?_
  rintro e w1 ⟨rfl, hB1⟩
  have a1 : Blk w1 w.heap.size 32 (arr a) := (((Blk.nu rfl).alloc _).alloc _).below hB1 (by simp; omega)
  have b1 : Blk w1 (w.heap.size + 1) 32 (arr b) := ((Blk.nu (by simp)).alloc _).below hB1 (by simp)
  have c1 : Blk w1 (w.heap.size + 1 + 1) 32 (arr c) := (Blk.nu (by simp)).below hB1 (by simp)
  have hB1' := hB0.trans (hB1.mono hB0.size)
  clear hB0 hB1
  go_wp2_with (first | (refine wpl_load_arr rfl 32 _ rfl _ rfl 16 ty16 a Ha.out a1.cells_arr ?_) | (refine wpl_load_arr rfl 32 _ rfl _ rfl 16 ty16 b Hb.out b1.cells_arr ?_))
  refine (mul_any a b Ha.out Hb.out _).mono ?_
  rintro e w2 ⟨rfl, hB2⟩
  rw [Hab.out]
  have bel2 := below_setRow ((Below.refl w2.heap.size w2).alloc (Nat.le_refl _) (.cells (arr (List.replicate 16 0)) 32)) (Nat.le_refl _) (arr ab)
  have bel3 := hB2.trans (bel2.mono hB2.size)
  have hE0 : Env w [(w.heap.size, a), (w.heap.size + 1, b), (w.heap.size + 1 + 1, c), (w2.heap.size, ab)] ((w2.alloc (.cells (arr (List.replicate 16 0)) 32)).setRow w2.heap.size (arr ab)) := by
    refine ⟨fun p hp => ?_, hB1'.trans (bel3.mono hB1'.size)⟩
    rcases List.mem_cons.1 hp with rfl | hp
    · exact a1.below bel3 a1.lt
    rcases List.mem_cons.1 hp with rfl | hp
    · exact b1.below bel3 b1.lt
    rcases List.mem_cons.1 hp with rfl | hp
    · exact c1.below bel3 c1.lt
    rcases List.mem_cons.1 hp with rfl | hp
    · exact (Blk.nu rfl).setRow _
    cases hp
  obtain ⟨z, Hz⟩ : ∃ z, Hd (w2.heap.size = z) := ⟨_, ⟨rfl⟩⟩
  go_wp2_with (first | (refine wpl_alloc rfl 32 rfl _ zero16 ?_) | ((refine wpl_store_arr rfl 32 _ _ rfl w2.heap.size ab rfl rfl 32 _ (Blk.nu rfl) 16 ty16.size Habl.out (by rw [arr_size]; rfl) ?_); refine wpl_name (fun wo => Env w [(w.heap.size, a), (w.heap.size + 1, b), (w.heap.size + 1 + 1, c), (w2.heap.size, ab)] wo) hE0 ?_; rintro wo hE))
  try simp only [Act.put, List.setIfInBounds_toArray, List.set_cons_zero, List.set_cons_succ]
  rw [Hz.out] at hE ⊢
  clear a1 b1 c1 hB1' hB2 bel2 bel3 hE0
  refine u_start (S := fun _ => Env w [(w.heap.size, a), (w.heap.size + 1, b), (w.heap.size + 1 + 1, c), (z, ab)]) 99 (by kernel_rfl) (hE.next (Below.refl _ _).drew) ?_
  refine u_take 0 rfl (o := _) rfl (by kernel_rfl) (by kernel_rfl) (by kernel_rfl) (.agg (arr ab)) (fun _ _ _ h => h) (g_value rfl (wanted_plain rfl) (fun f W hW => run_load_arr (by rfl) (by simp [Act.eval]) ty16 ab Habl.out (hW.at_ (z, ab) (by simp)).cells_arr)) ?_
  simp only [Act.put, List.getElem_toArray, List.getElem_cons_succ, List.getElem_cons_zero, List.setIfInBounds_toArray, List.set_cons_zero, List.set_cons_succ]
  refine u_take 1 rfl (o := _) rfl (by kernel_rfl) (by kernel_rfl) (by kernel_rfl) (.agg (arr b)) (fun _ _ _ h => h) (g_value rfl (wanted_plain rfl) (fun f W hW => run_load_arr (by rfl) (by simp [Act.eval]) ty16 b Hb.out (hW.at_ (w.heap.size + 1, b) (by simp)).cells_arr)) ?_
  simp only [Act.put, List.getElem_toArray, List.getElem_cons_succ, List.getElem_cons_zero, List.setIfInBounds_toArray, List.set_cons_zero, List.set_cons_succ]
  refine u_take 2 rfl (o := _) rfl (by kernel_rfl) (by kernel_rfl) (by kernel_rfl) (.agg (arr a)) (fun _ _ _ h => h) (g_value rfl (wanted_plain rfl) (fun f W hW => run_load_arr (by rfl) (by simp [Act.eval]) ty16 a Ha.out (hW.at_ (w.heap.size, a) (by simp)).cells_arr)) ?_
  simp only [Act.put, List.getElem_toArray, List.getElem_cons_succ, List.getElem_cons_zero, List.setIfInBounds_toArray, List.set_cons_zero, List.set_cons_succ]
  refine u_take 3 rfl (o := _) rfl (by kernel_rfl) (by kernel_rfl) (by kernel_rfl) (.agg (arr ab)) (fun _ _ _ h => h) (g_call rfl (wanted_plain rfl) 22 _ _ rfl #[.agg (arr b), .agg (arr a)] (by simp [Act.eval]) (enter_mul _) (fun f W hW => Env.call hW (by have h := mul_any b a Hb.out Ha.out W; rw [Hba.out] at h; exact h))) ?_
  simp only [Act.put, List.getElem_toArray, List.getElem_cons_succ, List.getElem_cons_zero, List.setIfInBounds_toArray, List.set_cons_zero, List.set_cons_succ]
  refine u_take 4 rfl (o := _) rfl (by kernel_rfl) (by kernel_rfl) (by kernel_rfl) (.bool true) (fun _ _ _ h => h) (g_value rfl (wanted_plain rfl) (fun f W hW => run_same16 (by rfl) ab ab (rfl) (by simp [Act.eval]) (by simp [Act.eval]) Habl.out Habl.out W)) ?_
  simp only [Act.put, List.getElem_toArray, List.getElem_cons_succ, List.getElem_cons_zero, List.setIfInBounds_toArray, List.set_cons_zero, List.set_cons_succ]
  refine u_take 5 rfl (o := _) rfl (by kernel_rfl) (by kernel_rfl) (by kernel_rfl) (.bool true) (fun _ _ _ h => h) (g_value rfl (wanted_plain rfl) (fun f W hW => run_assign (by rfl) (by simp [Act.eval]) W)) ?_
  simp only [Act.put, List.getElem_toArray, List.getElem_cons_succ, List.getElem_cons_zero, List.setIfInBounds_toArray, List.set_cons_zero, List.set_cons_succ]
  refine u_done (by kernel_rfl) (fun W3 hW3 => ?_) _
  have hW3 : Env w [(w.heap.size, a), (w.heap.size + 1, b), (w.heap.size + 1 + 1, c), (z, ab)] W3 := hW3
  clear hE
  go_wp2_with fail
  refine u_start (S := fun _ => Env w [(w.heap.size, a), (w.heap.size + 1, b), (w.heap.size + 1 + 1, c), (z, ab)]) 99 (by kernel_rfl) (hW3.next (Below.refl _ _).drew) ?_
  refine u_take 0 rfl (o := _) rfl (by kernel_rfl) (by kernel_rfl) (by kernel_rfl) (.agg (arr ab)) (fun _ _ _ h => h) (g_value rfl (wanted_plain rfl) (fun f W hW => run_load_arr (by rfl) (by simp [Act.eval]) ty16 ab Habl.out (hW.at_ (z, ab) (by simp)).cells_arr)) ?_
  simp only [Act.put, List.getElem_toArray, List.getElem_cons_succ, List.getElem_cons_zero, List.setIfInBounds_toArray, List.set_cons_zero, List.set_cons_succ]
  refine u_take 1 rfl (o := _) rfl (by kernel_rfl) (by kernel_rfl) (by kernel_rfl) (.agg (arr c)) (fun _ _ _ h => h) (g_value rfl (wanted_plain rfl) (fun f W hW => run_load_arr (by rfl) (by simp [Act.eval]) ty16 c Hc.out (hW.at_ (w.heap.size + 1 + 1, c) (by simp)).cells_arr)) ?_
  simp only [Act.put, List.getElem_toArray, List.getElem_cons_succ, List.getElem_cons_zero, List.setIfInBounds_toArray, List.set_cons_zero, List.set_cons_succ]
  refine u_take 3 rfl (o := _) rfl (by kernel_rfl) (by kernel_rfl) (by kernel_rfl) (.agg (arr a)) (fun _ _ _ h => h) (g_value rfl (wanted_plain rfl) (fun f W hW => run_load_arr (by rfl) (by simp [Act.eval]) ty16 a Ha.out (hW.at_ (w.heap.size, a) (by simp)).cells_arr)) ?_
  simp only [Act.put, List.getElem_toArray, List.getElem_cons_succ, List.getElem_cons_zero, List.setIfInBounds_toArray, List.set_cons_zero, List.set_cons_succ]
  refine u_take 4 rfl (o := _) rfl (by kernel_rfl) (by kernel_rfl) (by kernel_rfl) (.agg (arr b)) (fun _ _ _ h => h) (g_value rfl (wanted_plain rfl) (fun f W hW => run_load_arr (by rfl) (by simp [Act.eval]) ty16 b Hb.out (hW.at_ (w.heap.size + 1, b) (by simp)).cells_arr)) ?_
  simp only [Act.put, List.getElem_toArray, List.getElem_cons_succ, List.getElem_cons_zero, List.setIfInBounds_toArray, List.set_cons_zero, List.set_cons_succ]
  refine u_take 5 rfl (o := _) rfl (by kernel_rfl) (by kernel_rfl) (by kernel_rfl) (.agg (arr c)) (fun _ _ _ h => h) (g_value rfl (wanted_plain rfl) (fun f W hW => run_load_arr (by rfl) (by simp [Act.eval]) ty16 c Hc.out (hW.at_ (w.heap.size + 1 + 1, c) (by simp)).cells_arr)) ?_
  simp only [Act.put, List.getElem_toArray, List.getElem_cons_succ, List.getElem_cons_zero, List.setIfInBounds_toArray, List.set_cons_zero, List.set_cons_succ]
  refine u_take 2 rfl (o := _) rfl (by kernel_rfl) (by kernel_rfl) (by kernel_rfl) (.agg (arr abc)) (fun _ _ _ h => h) (g_call rfl (wanted_plain rfl) 22 _ _ rfl #[.agg (arr ab), .agg (arr c)] (by simp [Act.eval]) (enter_mul _) (fun f W hW => Env.call hW (by have h := mul_any ab c Habl.out Hc.out W; rw [Habc.out] at h; exact h))) ?_
  simp only [Act.put, List.getElem_toArray, List.getElem_cons_succ, List.getElem_cons_zero, List.setIfInBounds_toArray, List.set_cons_zero, List.set_cons_succ]
  refine u_take 6 rfl (o := _) rfl (by kernel_rfl) (by kernel_rfl) (by kernel_rfl) (.agg (arr bc)) (fun _ _ _ h => h) (g_call rfl (wanted_plain rfl) 22 _ _ rfl #[.agg (arr b), .agg (arr c)] (by simp [Act.eval]) (enter_mul _) (fun f W hW => Env.call hW (by have h := mul_any b c Hb.out Hc.out W; rw [Hbc.out] at h; exact h))) ?_
  simp only [Act.put, List.getElem_toArray, List.getElem_cons_succ, List.getElem_cons_zero, List.setIfInBounds_toArray, List.set_cons_zero, List.set_cons_succ]
  refine u_take 7 rfl (o := _) rfl (by kernel_rfl) (by kernel_rfl) (by kernel_rfl) (.agg (arr abc)) (fun _ _ _ h => h) (g_call rfl (wanted_plain rfl) 22 _ _ rfl #[.agg (arr a), .agg (arr bc)] (by simp [Act.eval]) (enter_mul _) (fun f W hW => Env.call hW (by have h := mul_any a bc Ha.out Hbcl.out W; rw [Habc2.out] at h; exact h))) ?_
  simp only [Act.put, List.getElem_toArray, List.getElem_cons_succ, List.getElem_cons_zero, List.setIfInBounds_toArray, List.set_cons_zero, List.set_cons_succ]
  refine u_take 8 rfl (o := _) rfl (by kernel_rfl) (by kernel_rfl) (by kernel_rfl) (.bool true) (fun _ _ _ h => h) (g_value rfl (wanted_plain rfl) (fun f W hW => run_same16 (by rfl) abc abc (rfl) (by simp [Act.eval]) (by simp [Act.eval]) Habcl.out Habcl.out W)) ?_
  simp only [Act.put, List.getElem_toArray, List.getElem_cons_succ, List.getElem_cons_zero, List.setIfInBounds_toArray, List.set_cons_zero, List.set_cons_succ]
  refine u_take 9 rfl (o := _) rfl (by kernel_rfl) (by kernel_rfl) (by kernel_rfl) (.bool true) (fun _ _ _ h => h) (g_value rfl (wanted_plain rfl) (fun f W hW => run_assign (by rfl) (by simp [Act.eval]) W)) ?_
  simp only [Act.put, List.getElem_toArray, List.getElem_cons_succ, List.getElem_cons_zero, List.setIfInBounds_toArray, List.set_cons_zero, List.set_cons_succ]
  refine u_done (by kernel_rfl) (fun W4 hW4 => ?_) _
  have hW4 : Env w [(w.heap.size, a), (w.heap.size + 1, b), (w.heap.size + 1 + 1, c), (z, ab)] W4 := hW4
  clear hW3
  go_wp2_with fail
  refine u_start (S := fun _ => Env w [(w.heap.size, a), (w.heap.size + 1, b), (w.heap.size + 1 + 1, c), (z, ab)]) 99 (by kernel_rfl) (hW4.next (Below.refl _ _).drew) ?_
  refine u_take 0 rfl (o := _) rfl (by kernel_rfl) (by kernel_rfl) (by kernel_rfl) (.agg (arr a)) (fun _ _ _ h => h) (g_value rfl (wanted_plain rfl) (fun f W hW => run_load_arr (by rfl) (by simp [Act.eval]) ty16 a Ha.out (hW.at_ (w.heap.size, a) (by simp)).cells_arr)) ?_
  simp only [Act.put, List.getElem_toArray, List.getElem_cons_succ, List.getElem_cons_zero, List.setIfInBounds_toArray, List.set_cons_zero, List.set_cons_succ]
  refine u_take 1 rfl (o := _) rfl (by kernel_rfl) (by kernel_rfl) (by kernel_rfl) (.agg (arr b)) (fun _ _ _ h => h) (g_value rfl (wanted_plain rfl) (fun f W hW => run_load_arr (by rfl) (by simp [Act.eval]) ty16 b Hb.out (hW.at_ (w.heap.size + 1, b) (by simp)).cells_arr)) ?_
  simp only [Act.put, List.getElem_toArray, List.getElem_cons_succ, List.getElem_cons_zero, List.setIfInBounds_toArray, List.set_cons_zero, List.set_cons_succ]
  refine u_take 3 rfl (o := _) rfl (by kernel_rfl) (by kernel_rfl) (by kernel_rfl) (.agg (arr c)) (fun _ _ _ h => h) (g_value rfl (wanted_plain rfl) (fun f W hW => run_load_arr (by rfl) (by simp [Act.eval]) ty16 c Hc.out (hW.at_ (w.heap.size + 1 + 1, c) (by simp)).cells_arr)) ?_
  simp only [Act.put, List.getElem_toArray, List.getElem_cons_succ, List.getElem_cons_zero, List.setIfInBounds_toArray, List.set_cons_zero, List.set_cons_succ]
  refine u_take 5 rfl (o := _) rfl (by kernel_rfl) (by kernel_rfl) (by kernel_rfl) (.agg (arr a)) (fun _ _ _ h => h) (g_value rfl (wanted_plain rfl) (fun f W hW => run_load_arr (by rfl) (by simp [Act.eval]) ty16 a Ha.out (hW.at_ (w.heap.size, a) (by simp)).cells_arr)) ?_
  simp only [Act.put, List.getElem_toArray, List.getElem_cons_succ, List.getElem_cons_zero, List.setIfInBounds_toArray, List.set_cons_zero, List.set_cons_succ]
  refine u_take 6 rfl (o := _) rfl (by kernel_rfl) (by kernel_rfl) (by kernel_rfl) (.agg (arr c)) (fun _ _ _ h => h) (g_value rfl (wanted_plain rfl) (fun f W hW => run_load_arr (by rfl) (by simp [Act.eval]) ty16 c Hc.out (hW.at_ (w.heap.size + 1 + 1, c) (by simp)).cells_arr)) ?_
  simp only [Act.put, List.getElem_toArray, List.getElem_cons_succ, List.getElem_cons_zero, List.setIfInBounds_toArray, List.set_cons_zero, List.set_cons_succ]
  refine u_take 8 rfl (o := _) rfl (by kernel_rfl) (by kernel_rfl) (by kernel_rfl) (.agg (arr b)) (fun _ _ _ h => h) (g_value rfl (wanted_plain rfl) (fun f W hW => run_load_arr (by rfl) (by simp [Act.eval]) ty16 b Hb.out (hW.at_ (w.heap.size + 1, b) (by simp)).cells_arr)) ?_
  simp only [Act.put, List.getElem_toArray, List.getElem_cons_succ, List.getElem_cons_zero, List.setIfInBounds_toArray, List.set_cons_zero, List.set_cons_succ]
  refine u_take 9 rfl (o := _) rfl (by kernel_rfl) (by kernel_rfl) (by kernel_rfl) (.agg (arr c)) (fun _ _ _ h => h) (g_value rfl (wanted_plain rfl) (fun f W hW => run_load_arr (by rfl) (by simp [Act.eval]) ty16 c Hc.out (hW.at_ (w.heap.size + 1 + 1, c) (by simp)).cells_arr)) ?_
  simp only [Act.put, List.getElem_toArray, List.getElem_cons_succ, List.getElem_cons_zero, List.setIfInBounds_toArray, List.set_cons_zero, List.set_cons_succ]
  refine u_take 2 rfl (o := _) rfl (by kernel_rfl) (by kernel_rfl) (by kernel_rfl) (.agg (arr s)) (fun _ _ _ h => h) (g_call rfl (wanted_plain rfl) 20 _ _ rfl #[.agg (arr a), .agg (arr b)] (by simp [Act.eval]) (enter_with8 _) (fun f W hW => Env.call hW (by have h := with08_any a b Ha.out Hb.out W; rw [Hs.out] at h; exact h))) ?_
  simp only [Act.put, List.getElem_toArray, List.getElem_cons_succ, List.getElem_cons_zero, List.setIfInBounds_toArray, List.set_cons_zero, List.set_cons_succ]
  refine u_take 4 rfl (o := _) rfl (by kernel_rfl) (by kernel_rfl) (by kernel_rfl) (.agg (arr sc)) (fun _ _ _ h => h) (g_call rfl (wanted_plain rfl) 22 _ _ rfl #[.agg (arr s), .agg (arr c)] (by simp [Act.eval]) (enter_mul _) (fun f W hW => Env.call hW (by have h := mul_any s c Hsl.out Hc.out W; rw [Hsc.out] at h; exact h))) ?_
  simp only [Act.put, List.getElem_toArray, List.getElem_cons_succ, List.getElem_cons_zero, List.setIfInBounds_toArray, List.set_cons_zero, List.set_cons_succ]
  refine u_take 7 rfl (o := _) rfl (by kernel_rfl) (by kernel_rfl) (by kernel_rfl) (.agg (arr ac)) (fun _ _ _ h => h) (g_call rfl (wanted_plain rfl) 22 _ _ rfl #[.agg (arr a), .agg (arr c)] (by simp [Act.eval]) (enter_mul _) (fun f W hW => Env.call hW (by have h := mul_any a c Ha.out Hc.out W; rw [Hac.out] at h; exact h))) ?_
  simp only [Act.put, List.getElem_toArray, List.getElem_cons_succ, List.getElem_cons_zero, List.setIfInBounds_toArray, List.set_cons_zero, List.set_cons_succ]
  refine u_take 10 rfl (o := _) rfl (by kernel_rfl) (by kernel_rfl) (by kernel_rfl) (.agg (arr bc)) (fun _ _ _ h => h) (g_call rfl (wanted_plain rfl) 22 _ _ rfl #[.agg (arr b), .agg (arr c)] (by simp [Act.eval]) (enter_mul _) (fun f W hW => Env.call hW (by have h := mul_any b c Hb.out Hc.out W; rw [Hbc.out] at h; exact h))) ?_
  simp only [Act.put, List.getElem_toArray, List.getElem_cons_succ, List.getElem_cons_zero, List.setIfInBounds_toArray, List.set_cons_zero, List.set_cons_succ]
  refine u_take 11 rfl (o := _) rfl (by kernel_rfl) (by kernel_rfl) (by kernel_rfl) (.agg (arr sc)) (fun _ _ _ h => h) (g_call rfl (wanted_plain rfl) 20 _ _ rfl #[.agg (arr ac), .agg (arr bc)] (by simp [Act.eval]) (enter_with8 _) (fun f W hW => Env.call hW (by have h := with08_any ac bc Hacl.out Hbcl.out W; rw [Hsc2.out] at h; exact h))) ?_
  simp only [Act.put, List.getElem_toArray, List.getElem_cons_succ, List.getElem_cons_zero, List.setIfInBounds_toArray, List.set_cons_zero, List.set_cons_succ]
  refine u_take 12 rfl (o := _) rfl (by kernel_rfl) (by kernel_rfl) (by kernel_rfl) (.bool true) (fun _ _ _ h => h) (g_value rfl (wanted_plain rfl) (fun f W hW => run_same16 (by rfl) sc sc (rfl) (by simp [Act.eval]) (by simp [Act.eval]) Hscl.out Hscl.out W)) ?_
  simp only [Act.put, List.getElem_toArray, List.getElem_cons_succ, List.getElem_cons_zero, List.setIfInBounds_toArray, List.set_cons_zero, List.set_cons_succ]
  refine u_take 13 rfl (o := _) rfl (by kernel_rfl) (by kernel_rfl) (by kernel_rfl) (.bool true) (fun _ _ _ h => h) (g_value rfl (wanted_plain rfl) (fun f W hW => run_assign (by rfl) (by simp [Act.eval]) W)) ?_
  simp only [Act.put, List.getElem_toArray, List.getElem_cons_succ, List.getElem_cons_zero, List.setIfInBounds_toArray, List.set_cons_zero, List.set_cons_succ]
  refine u_done (by kernel_rfl) (fun W5 hW5 => ?_) _
  have hW5 : Env w [(w.heap.size, a), (w.heap.size + 1, b), (w.heap.size + 1 + 1, c), (z, ab)] W5 := hW5
  clear hW4
  obtain ⟨Z, HZ⟩ : ∃ z, Hd (Gcm.zeros = z) := ⟨_, ⟨rfl⟩⟩
  have HZl := hd (show Z.length = 16 by rw [← HZ.out]; rfl)
  have hbZ : Try.prog.built 32 [] = some (arr Z) := by rw [← HZ.out]; exact built16
  have Hal := Ha
  have Hbl := Hb
  have kz := hW5.at_ (z, ab) (by simp)
  have ka := hW5.at_ (w.heap.size, a) (by simp)
  have kb := hW5.at_ (w.heap.size + 1, b) (by simp)
  have hg16 := guard16
  by_cases h1 : ab = Z
  · have hor : a = Z ∨ b = Z := by rw [← HZ.out]; exact Gcm.mul_none a b Ha.out Hb.out (by rw [Hab.out, h1, HZ.out])
    have H1 := hd h1
    clear h1
    by_cases h2 : a = Z
    · have H2 := hd h2
      clear h2 hor
      have qab : ∀ W, (Op.equalIn 10000 32 (.agg (arr ab)) (.agg (arr Z))).run Try.prog W = .ok true W := fun W => (eq16 ab Z Habl.out HZl.out W).trans (by rw [decide_eq_true H1.out])
      have qa : ∀ W, (Op.equalIn 10000 32 (.agg (arr a)) (.agg (arr Z))).run Try.prog W = .ok true W := fun W => (eq16 a Z Hal.out HZl.out W).trans (by rw [decide_eq_true H2.out])
      go_wp2_with (first | (refine wpl_load_arr rfl 32 _ rfl _ rfl 16 ty16 ab Habl.out kz.cells_arr ?_) | (refine wpl_valueG (run_load_arr rfl rfl ty16 a Ha.out ka.cells_arr) rfl ?_) | (refine wpl_valueG (run_load_arr rfl rfl ty16 b Hb.out kb.cells_arr) rfl ?_) | (refine wpl_build rfl 32 [] rfl [] rfl (arr Z) hbZ ?_) | (refine wpl_valueG (run_build_is rfl [] rfl hbZ _) rfl ?_))
      clear kz ka kb hg16
      refine u_start (S := fun _ => Env w [(w.heap.size, a), (w.heap.size + 1, b), (w.heap.size + 1 + 1, c), (z, ab)]) 99 (by kernel_rfl) (hW5.next (Below.refl _ _).drew) ?_
      refine u_take 0 rfl (o := _) rfl (by kernel_rfl) (by kernel_rfl) (by kernel_rfl) (.bool true) (fun _ _ _ h => h) (g_value rfl (wanted_plain rfl) (fun f W hW => run_move (by rfl) (by simp [Act.eval]) W)) ?_
      simp only [Act.put, List.getElem_toArray, List.getElem_cons_succ, List.getElem_cons_zero, List.setIfInBounds_toArray, List.set_cons_zero, List.set_cons_succ]
      refine u_take 1 rfl (o := _) rfl (by kernel_rfl) (by kernel_rfl) (by kernel_rfl) (.bool true) (fun _ _ _ h => h) (g_value rfl (wanted_plain rfl) (fun f W hW => run_move (by rfl) (by simp [Act.eval]) W)) ?_
      simp only [Act.put, List.getElem_toArray, List.getElem_cons_succ, List.getElem_cons_zero, List.setIfInBounds_toArray, List.set_cons_zero, List.set_cons_succ]
      refine u_take 2 rfl (o := _) rfl (by kernel_rfl) (by kernel_rfl) (by kernel_rfl) (.bool true) (fun _ _ _ h => h) (g_value rfl (by simp [Region.wanted, yielded]) (fun f W hW => run_move (by rfl) (by simp [Act.eval]) W)) ?_
      simp only [Act.put, List.getElem_toArray, List.getElem_cons_succ, List.getElem_cons_zero, List.setIfInBounds_toArray, List.set_cons_zero, List.set_cons_succ]
      refine u_take 3 rfl (o := _) rfl (by kernel_rfl) (by kernel_rfl) (by kernel_rfl) (.bool true) (fun _ _ _ h => h) (g_value rfl (wanted_plain rfl) (fun f W hW => run_pick (b := true) (by rfl) (by simp [Act.eval]) (by simp [Act.eval]) W)) ?_
      simp only [Act.put, List.getElem_toArray, List.getElem_cons_succ, List.getElem_cons_zero, List.setIfInBounds_toArray, List.set_cons_zero, List.set_cons_succ]
      refine u_take 4 rfl (o := _) rfl (by kernel_rfl) (by kernel_rfl) (by kernel_rfl) (.bool true) (fun _ _ _ h => h) (g_value rfl (wanted_plain rfl) (fun f W hW => run_move (by rfl) (by simp [Act.eval]) W)) ?_
      simp only [Act.put, List.getElem_toArray, List.getElem_cons_succ, List.getElem_cons_zero, List.setIfInBounds_toArray, List.set_cons_zero, List.set_cons_succ]
      refine u_take 5 rfl (o := _) rfl (by kernel_rfl) (by kernel_rfl) (by kernel_rfl) (.bool true) (fun _ _ _ h => h) (g_value rfl (by simp [Region.wanted, yielded]) (fun f W hW => run_move (by rfl) (by simp [Act.eval]) W)) ?_
      simp only [Act.put, List.getElem_toArray, List.getElem_cons_succ, List.getElem_cons_zero, List.setIfInBounds_toArray, List.set_cons_zero, List.set_cons_succ]
      refine u_take 6 rfl (o := _) rfl (by kernel_rfl) (by kernel_rfl) (by kernel_rfl) (.bool true) (fun _ _ _ h => h) (g_value rfl (wanted_plain rfl) (fun f W hW => run_pick (b := true) (by rfl) (by simp [Act.eval]) (by simp [Act.eval]) W)) ?_
      simp only [Act.put, List.getElem_toArray, List.getElem_cons_succ, List.getElem_cons_zero, List.setIfInBounds_toArray, List.set_cons_zero, List.set_cons_succ]
      refine u_take 7 rfl (o := _) rfl (by kernel_rfl) (by kernel_rfl) (by kernel_rfl) (.bool true) (fun _ _ _ h => h) (g_value rfl (wanted_plain rfl) (fun f W hW => run_move (by rfl) (by simp [Act.eval]) W)) ?_
      simp only [Act.put, List.getElem_toArray, List.getElem_cons_succ, List.getElem_cons_zero, List.setIfInBounds_toArray, List.set_cons_zero, List.set_cons_succ]
      refine u_take 8 rfl (o := _) rfl (by kernel_rfl) (by kernel_rfl) (by kernel_rfl) (.bool true) (fun _ _ _ h => h) (g_value rfl (by simp [Region.wanted, yielded]) (fun f W hW => run_move (by rfl) (by simp [Act.eval]) W)) ?_
      simp only [Act.put, List.getElem_toArray, List.getElem_cons_succ, List.getElem_cons_zero, List.setIfInBounds_toArray, List.set_cons_zero, List.set_cons_succ]
      refine u_take 9 rfl (o := _) rfl (by kernel_rfl) (by kernel_rfl) (by kernel_rfl) (.bool true) (fun _ _ _ h => h) (g_value rfl (wanted_plain rfl) (fun f W hW => run_pick (b := true) (by rfl) (by simp [Act.eval]) (by simp [Act.eval]) W)) ?_
      simp only [Act.put, List.getElem_toArray, List.getElem_cons_succ, List.getElem_cons_zero, List.setIfInBounds_toArray, List.set_cons_zero, List.set_cons_succ]
      refine u_take 10 rfl (o := _) rfl (by kernel_rfl) (by kernel_rfl) (by kernel_rfl) (.bool true) (fun _ _ _ h => h) (g_value rfl (wanted_plain rfl) (fun f W hW => run_move (by rfl) (by simp [Act.eval]) W)) ?_
      simp only [Act.put, List.getElem_toArray, List.getElem_cons_succ, List.getElem_cons_zero, List.setIfInBounds_toArray, List.set_cons_zero, List.set_cons_succ]
      refine u_take 11 rfl (o := _) rfl (by kernel_rfl) (by kernel_rfl) (by kernel_rfl) (.bool false) (fun _ _ _ h => h) (g_value rfl (by simp [Region.wanted, yielded]) (fun f W hW => run_move (by rfl) (by simp [Act.eval]) W)) ?_
      simp only [Act.put, List.getElem_toArray, List.getElem_cons_succ, List.getElem_cons_zero, List.setIfInBounds_toArray, List.set_cons_zero, List.set_cons_succ]
      refine u_take 12 rfl (o := _) rfl (by kernel_rfl) (by kernel_rfl) (by kernel_rfl) (.bool true) (fun _ _ _ h => h) (g_value rfl (by simp [Region.wanted, yielded]) (fun f W hW => run_not (b := false) (by rfl) (by simp [Act.eval]) W)) ?_
      simp only [Act.put, List.getElem_toArray, List.getElem_cons_succ, List.getElem_cons_zero, List.setIfInBounds_toArray, List.set_cons_zero, List.set_cons_succ]
      refine u_take 13 rfl (o := _) rfl (by kernel_rfl) (by kernel_rfl) (by kernel_rfl) (.bool true) (fun _ _ _ h => h) (g_value rfl (wanted_plain rfl) (fun f W hW => run_pick (b := true) (by rfl) (by simp [Act.eval]) (by simp [Act.eval]) W)) ?_
      simp only [Act.put, List.getElem_toArray, List.getElem_cons_succ, List.getElem_cons_zero, List.setIfInBounds_toArray, List.set_cons_zero, List.set_cons_succ]
      refine u_take 14 rfl (o := _) rfl (by kernel_rfl) (by kernel_rfl) (by kernel_rfl) (.bool true) (fun _ _ _ h => h) (g_value rfl (wanted_plain rfl) (fun f W hW => run_move (by rfl) (by simp [Act.eval]) W)) ?_
      simp only [Act.put, List.getElem_toArray, List.getElem_cons_succ, List.getElem_cons_zero, List.setIfInBounds_toArray, List.set_cons_zero, List.set_cons_succ]
      refine u_take 15 rfl (o := _) rfl (by kernel_rfl) (by kernel_rfl) (by kernel_rfl) (.agg (arr a)) (fun _ _ _ h => h) (g_value rfl (by simp [Region.wanted, yielded]) (fun f W hW => run_load_arr (by rfl) (by simp [Act.eval]) ty16 a Ha.out (hW.at_ (w.heap.size, a) (by simp)).cells_arr)) ?_
      simp only [Act.put, List.getElem_toArray, List.getElem_cons_succ, List.getElem_cons_zero, List.setIfInBounds_toArray, List.set_cons_zero, List.set_cons_succ]
      refine u_take 16 rfl (o := _) rfl (by kernel_rfl) (by kernel_rfl) (by kernel_rfl) (.agg (arr e1)) (fun _ _ _ h => h) (g_value rfl (by simp [Region.wanted, yielded]) (fun f W hW => run_build_is (parts := [(0, .const (.int .u8 128))]) (by rfl) [(0, .int .u8 128)] (by rfl) hb1 W)) ?_
      simp only [Act.put, List.getElem_toArray, List.getElem_cons_succ, List.getElem_cons_zero, List.setIfInBounds_toArray, List.set_cons_zero, List.set_cons_succ]
      refine u_take 18 rfl (o := _) rfl (by kernel_rfl) (by kernel_rfl) (by kernel_rfl) (.agg (arr a)) (fun _ _ _ h => h) (g_value rfl (by simp [Region.wanted, yielded]) (fun f W hW => run_load_arr (by rfl) (by simp [Act.eval]) ty16 a Ha.out (hW.at_ (w.heap.size, a) (by simp)).cells_arr)) ?_
      simp only [Act.put, List.getElem_toArray, List.getElem_cons_succ, List.getElem_cons_zero, List.setIfInBounds_toArray, List.set_cons_zero, List.set_cons_succ]
      refine u_take 17 rfl (o := _) rfl (by kernel_rfl) (by kernel_rfl) (by kernel_rfl) (.agg (arr a)) (fun _ _ _ h => h) (g_call rfl (by simp [Region.wanted, yielded]) 22 _ _ rfl #[.agg (arr a), .agg (arr e1)] (by simp [Act.eval]) (enter_mul _) (fun f W hW => Env.call hW (by have h := mul_any a e1 Ha.out He1l.out W; rw [Hae1.out] at h; exact h))) ?_
      simp only [Act.put, List.getElem_toArray, List.getElem_cons_succ, List.getElem_cons_zero, List.setIfInBounds_toArray, List.set_cons_zero, List.set_cons_succ]
      refine u_take 19 rfl (o := _) rfl (by kernel_rfl) (by kernel_rfl) (by kernel_rfl) (.bool true) (fun _ _ _ h => h) (g_value rfl (by simp [Region.wanted, yielded]) (fun f W hW => run_same16 (by rfl) a a (rfl) (by simp [Act.eval]) (by simp [Act.eval]) Ha.out Ha.out W)) ?_
      simp only [Act.put, List.getElem_toArray, List.getElem_cons_succ, List.getElem_cons_zero, List.setIfInBounds_toArray, List.set_cons_zero, List.set_cons_succ]
      refine u_take 20 rfl (o := _) rfl (by kernel_rfl) (by kernel_rfl) (by kernel_rfl) (.bool true) (fun _ _ _ h => h) (g_value rfl (wanted_plain rfl) (fun f W hW => run_pick (b := true) (by rfl) (by simp [Act.eval]) (by simp [Act.eval]) W)) ?_
      simp only [Act.put, List.getElem_toArray, List.getElem_cons_succ, List.getElem_cons_zero, List.setIfInBounds_toArray, List.set_cons_zero, List.set_cons_succ]
      refine u_take 21 rfl (o := _) rfl (by kernel_rfl) (by kernel_rfl) (by kernel_rfl) (.bool true) (fun _ _ _ h => h) (g_value rfl (wanted_plain rfl) (fun f W hW => run_assign (by rfl) (by simp [Act.eval]) W)) ?_
      simp only [Act.put, List.getElem_toArray, List.getElem_cons_succ, List.getElem_cons_zero, List.setIfInBounds_toArray, List.set_cons_zero, List.set_cons_succ]
      refine u_done (by kernel_rfl) (fun W7 hW7 => ?_) _
      go_wp2
      go_ret
      exact ⟨rfl, Env.old hW7⟩
    · have h3 : b = Z := hor.resolve_left h2
      have H2 := hd h2
      have H3 := hd h3
      clear h2 h3 hor
      have qab : ∀ W, (Op.equalIn 10000 32 (.agg (arr ab)) (.agg (arr Z))).run Try.prog W = .ok true W := fun W => (eq16 ab Z Habl.out HZl.out W).trans (by rw [decide_eq_true H1.out])
      have qa : ∀ W, (Op.equalIn 10000 32 (.agg (arr a)) (.agg (arr Z))).run Try.prog W = .ok false W := fun W => (eq16 a Z Hal.out HZl.out W).trans (by rw [decide_eq_false H2.out])
      have qb : ∀ W, (Op.equalIn 10000 32 (.agg (arr b)) (.agg (arr Z))).run Try.prog W = .ok true W := fun W => (eq16 b Z Hbl.out HZl.out W).trans (by rw [decide_eq_true H3.out])
      go_wp2_with (first | (refine wpl_load_arr rfl 32 _ rfl _ rfl 16 ty16 ab Habl.out kz.cells_arr ?_) | (refine wpl_valueG (run_load_arr rfl rfl ty16 a Ha.out ka.cells_arr) rfl ?_) | (refine wpl_valueG (run_load_arr rfl rfl ty16 b Hb.out kb.cells_arr) rfl ?_) | (refine wpl_build rfl 32 [] rfl [] rfl (arr Z) hbZ ?_) | (refine wpl_valueG (run_build_is rfl [] rfl hbZ _) rfl ?_))
      clear kz ka kb hg16
      refine u_start (S := fun _ => Env w [(w.heap.size, a), (w.heap.size + 1, b), (w.heap.size + 1 + 1, c), (z, ab)]) 99 (by kernel_rfl) (hW5.next (Below.refl _ _).drew) ?_
      refine u_take 0 rfl (o := _) rfl (by kernel_rfl) (by kernel_rfl) (by kernel_rfl) (.bool true) (fun _ _ _ h => h) (g_value rfl (wanted_plain rfl) (fun f W hW => run_move (by rfl) (by simp [Act.eval]) W)) ?_
      simp only [Act.put, List.getElem_toArray, List.getElem_cons_succ, List.getElem_cons_zero, List.setIfInBounds_toArray, List.set_cons_zero, List.set_cons_succ]
      refine u_take 1 rfl (o := _) rfl (by kernel_rfl) (by kernel_rfl) (by kernel_rfl) (.bool true) (fun _ _ _ h => h) (g_value rfl (wanted_plain rfl) (fun f W hW => run_move (by rfl) (by simp [Act.eval]) W)) ?_
      simp only [Act.put, List.getElem_toArray, List.getElem_cons_succ, List.getElem_cons_zero, List.setIfInBounds_toArray, List.set_cons_zero, List.set_cons_succ]
      refine u_take 2 rfl (o := _) rfl (by kernel_rfl) (by kernel_rfl) (by kernel_rfl) (.bool true) (fun _ _ _ h => h) (g_value rfl (by simp [Region.wanted, yielded]) (fun f W hW => run_move (by rfl) (by simp [Act.eval]) W)) ?_
      simp only [Act.put, List.getElem_toArray, List.getElem_cons_succ, List.getElem_cons_zero, List.setIfInBounds_toArray, List.set_cons_zero, List.set_cons_succ]
      refine u_take 3 rfl (o := _) rfl (by kernel_rfl) (by kernel_rfl) (by kernel_rfl) (.bool true) (fun _ _ _ h => h) (g_value rfl (wanted_plain rfl) (fun f W hW => run_pick (b := true) (by rfl) (by simp [Act.eval]) (by simp [Act.eval]) W)) ?_
      simp only [Act.put, List.getElem_toArray, List.getElem_cons_succ, List.getElem_cons_zero, List.setIfInBounds_toArray, List.set_cons_zero, List.set_cons_succ]
      refine u_take 4 rfl (o := _) rfl (by kernel_rfl) (by kernel_rfl) (by kernel_rfl) (.bool true) (fun _ _ _ h => h) (g_value rfl (wanted_plain rfl) (fun f W hW => run_move (by rfl) (by simp [Act.eval]) W)) ?_
      simp only [Act.put, List.getElem_toArray, List.getElem_cons_succ, List.getElem_cons_zero, List.setIfInBounds_toArray, List.set_cons_zero, List.set_cons_succ]
      refine u_take 5 rfl (o := _) rfl (by kernel_rfl) (by kernel_rfl) (by kernel_rfl) (.bool true) (fun _ _ _ h => h) (g_value rfl (by simp [Region.wanted, yielded]) (fun f W hW => run_move (by rfl) (by simp [Act.eval]) W)) ?_
      simp only [Act.put, List.getElem_toArray, List.getElem_cons_succ, List.getElem_cons_zero, List.setIfInBounds_toArray, List.set_cons_zero, List.set_cons_succ]
      refine u_take 6 rfl (o := _) rfl (by kernel_rfl) (by kernel_rfl) (by kernel_rfl) (.bool true) (fun _ _ _ h => h) (g_value rfl (wanted_plain rfl) (fun f W hW => run_pick (b := true) (by rfl) (by simp [Act.eval]) (by simp [Act.eval]) W)) ?_
      simp only [Act.put, List.getElem_toArray, List.getElem_cons_succ, List.getElem_cons_zero, List.setIfInBounds_toArray, List.set_cons_zero, List.set_cons_succ]
      refine u_take 7 rfl (o := _) rfl (by kernel_rfl) (by kernel_rfl) (by kernel_rfl) (.bool true) (fun _ _ _ h => h) (g_value rfl (wanted_plain rfl) (fun f W hW => run_move (by rfl) (by simp [Act.eval]) W)) ?_
      simp only [Act.put, List.getElem_toArray, List.getElem_cons_succ, List.getElem_cons_zero, List.setIfInBounds_toArray, List.set_cons_zero, List.set_cons_succ]
      refine u_take 8 rfl (o := _) rfl (by kernel_rfl) (by kernel_rfl) (by kernel_rfl) (.bool true) (fun _ _ _ h => h) (g_value rfl (by simp [Region.wanted, yielded]) (fun f W hW => run_move (by rfl) (by simp [Act.eval]) W)) ?_
      simp only [Act.put, List.getElem_toArray, List.getElem_cons_succ, List.getElem_cons_zero, List.setIfInBounds_toArray, List.set_cons_zero, List.set_cons_succ]
      refine u_take 9 rfl (o := _) rfl (by kernel_rfl) (by kernel_rfl) (by kernel_rfl) (.bool true) (fun _ _ _ h => h) (g_value rfl (wanted_plain rfl) (fun f W hW => run_pick (b := true) (by rfl) (by simp [Act.eval]) (by simp [Act.eval]) W)) ?_
      simp only [Act.put, List.getElem_toArray, List.getElem_cons_succ, List.getElem_cons_zero, List.setIfInBounds_toArray, List.set_cons_zero, List.set_cons_succ]
      refine u_take 10 rfl (o := _) rfl (by kernel_rfl) (by kernel_rfl) (by kernel_rfl) (.bool true) (fun _ _ _ h => h) (g_value rfl (wanted_plain rfl) (fun f W hW => run_move (by rfl) (by simp [Act.eval]) W)) ?_
      simp only [Act.put, List.getElem_toArray, List.getElem_cons_succ, List.getElem_cons_zero, List.setIfInBounds_toArray, List.set_cons_zero, List.set_cons_succ]
      refine u_take 11 rfl (o := _) rfl (by kernel_rfl) (by kernel_rfl) (by kernel_rfl) (.bool false) (fun _ _ _ h => h) (g_value rfl (by simp [Region.wanted, yielded]) (fun f W hW => run_move (by rfl) (by simp [Act.eval]) W)) ?_
      simp only [Act.put, List.getElem_toArray, List.getElem_cons_succ, List.getElem_cons_zero, List.setIfInBounds_toArray, List.set_cons_zero, List.set_cons_succ]
      refine u_take 12 rfl (o := _) rfl (by kernel_rfl) (by kernel_rfl) (by kernel_rfl) (.bool true) (fun _ _ _ h => h) (g_value rfl (by simp [Region.wanted, yielded]) (fun f W hW => run_not (b := false) (by rfl) (by simp [Act.eval]) W)) ?_
      simp only [Act.put, List.getElem_toArray, List.getElem_cons_succ, List.getElem_cons_zero, List.setIfInBounds_toArray, List.set_cons_zero, List.set_cons_succ]
      refine u_take 13 rfl (o := _) rfl (by kernel_rfl) (by kernel_rfl) (by kernel_rfl) (.bool true) (fun _ _ _ h => h) (g_value rfl (wanted_plain rfl) (fun f W hW => run_pick (b := true) (by rfl) (by simp [Act.eval]) (by simp [Act.eval]) W)) ?_
      simp only [Act.put, List.getElem_toArray, List.getElem_cons_succ, List.getElem_cons_zero, List.setIfInBounds_toArray, List.set_cons_zero, List.set_cons_succ]
      refine u_take 14 rfl (o := _) rfl (by kernel_rfl) (by kernel_rfl) (by kernel_rfl) (.bool true) (fun _ _ _ h => h) (g_value rfl (wanted_plain rfl) (fun f W hW => run_move (by rfl) (by simp [Act.eval]) W)) ?_
      simp only [Act.put, List.getElem_toArray, List.getElem_cons_succ, List.getElem_cons_zero, List.setIfInBounds_toArray, List.set_cons_zero, List.set_cons_succ]
      refine u_take 15 rfl (o := _) rfl (by kernel_rfl) (by kernel_rfl) (by kernel_rfl) (.agg (arr a)) (fun _ _ _ h => h) (g_value rfl (by simp [Region.wanted, yielded]) (fun f W hW => run_load_arr (by rfl) (by simp [Act.eval]) ty16 a Ha.out (hW.at_ (w.heap.size, a) (by simp)).cells_arr)) ?_
      simp only [Act.put, List.getElem_toArray, List.getElem_cons_succ, List.getElem_cons_zero, List.setIfInBounds_toArray, List.set_cons_zero, List.set_cons_succ]
      refine u_take 16 rfl (o := _) rfl (by kernel_rfl) (by kernel_rfl) (by kernel_rfl) (.agg (arr e1)) (fun _ _ _ h => h) (g_value rfl (by simp [Region.wanted, yielded]) (fun f W hW => run_build_is (parts := [(0, .const (.int .u8 128))]) (by rfl) [(0, .int .u8 128)] (by rfl) hb1 W)) ?_
      simp only [Act.put, List.getElem_toArray, List.getElem_cons_succ, List.getElem_cons_zero, List.setIfInBounds_toArray, List.set_cons_zero, List.set_cons_succ]
      refine u_take 18 rfl (o := _) rfl (by kernel_rfl) (by kernel_rfl) (by kernel_rfl) (.agg (arr a)) (fun _ _ _ h => h) (g_value rfl (by simp [Region.wanted, yielded]) (fun f W hW => run_load_arr (by rfl) (by simp [Act.eval]) ty16 a Ha.out (hW.at_ (w.heap.size, a) (by simp)).cells_arr)) ?_
      simp only [Act.put, List.getElem_toArray, List.getElem_cons_succ, List.getElem_cons_zero, List.setIfInBounds_toArray, List.set_cons_zero, List.set_cons_succ]
      refine u_take 17 rfl (o := _) rfl (by kernel_rfl) (by kernel_rfl) (by kernel_rfl) (.agg (arr a)) (fun _ _ _ h => h) (g_call rfl (by simp [Region.wanted, yielded]) 22 _ _ rfl #[.agg (arr a), .agg (arr e1)] (by simp [Act.eval]) (enter_mul _) (fun f W hW => Env.call hW (by have h := mul_any a e1 Ha.out He1l.out W; rw [Hae1.out] at h; exact h))) ?_
      simp only [Act.put, List.getElem_toArray, List.getElem_cons_succ, List.getElem_cons_zero, List.setIfInBounds_toArray, List.set_cons_zero, List.set_cons_succ]
      refine u_take 19 rfl (o := _) rfl (by kernel_rfl) (by kernel_rfl) (by kernel_rfl) (.bool true) (fun _ _ _ h => h) (g_value rfl (by simp [Region.wanted, yielded]) (fun f W hW => run_same16 (by rfl) a a (rfl) (by simp [Act.eval]) (by simp [Act.eval]) Ha.out Ha.out W)) ?_
      simp only [Act.put, List.getElem_toArray, List.getElem_cons_succ, List.getElem_cons_zero, List.setIfInBounds_toArray, List.set_cons_zero, List.set_cons_succ]
      refine u_take 20 rfl (o := _) rfl (by kernel_rfl) (by kernel_rfl) (by kernel_rfl) (.bool true) (fun _ _ _ h => h) (g_value rfl (wanted_plain rfl) (fun f W hW => run_pick (b := true) (by rfl) (by simp [Act.eval]) (by simp [Act.eval]) W)) ?_
      simp only [Act.put, List.getElem_toArray, List.getElem_cons_succ, List.getElem_cons_zero, List.setIfInBounds_toArray, List.set_cons_zero, List.set_cons_succ]
      refine u_take 21 rfl (o := _) rfl (by kernel_rfl) (by kernel_rfl) (by kernel_rfl) (.bool true) (fun _ _ _ h => h) (g_value rfl (wanted_plain rfl) (fun f W hW => run_assign (by rfl) (by simp [Act.eval]) W)) ?_
      simp only [Act.put, List.getElem_toArray, List.getElem_cons_succ, List.getElem_cons_zero, List.setIfInBounds_toArray, List.set_cons_zero, List.set_cons_succ]
      refine u_done (by kernel_rfl) (fun W7 hW7 => ?_) _
      go_wp2
      go_ret
      exact ⟨rfl, Env.old hW7⟩
  · have H1 := hd h1
    clear h1
    have qab : ∀ W, (Op.equalIn 10000 32 (.agg (arr ab)) (.agg (arr Z))).run Try.prog W = .ok false W := fun W => (eq16 ab Z Habl.out HZl.out W).trans (by rw [decide_eq_false H1.out])
    go_wp2_with (first | (refine wpl_load_arr rfl 32 _ rfl _ rfl 16 ty16 ab Habl.out kz.cells_arr ?_) | (refine wpl_valueG (run_load_arr rfl rfl ty16 a Ha.out ka.cells_arr) rfl ?_) | (refine wpl_valueG (run_load_arr rfl rfl ty16 b Hb.out kb.cells_arr) rfl ?_) | (refine wpl_build rfl 32 [] rfl [] rfl (arr Z) hbZ ?_) | (refine wpl_valueG (run_build_is rfl [] rfl hbZ _) rfl ?_))
    clear kz ka kb hg16
    refine u_start (S := fun _ => Env w [(w.heap.size, a), (w.heap.size + 1, b), (w.heap.size + 1 + 1, c), (z, ab)]) 99 (by kernel_rfl) (hW5.next (Below.refl _ _).drew) ?_
    refine u_take 0 rfl (o := _) rfl (by kernel_rfl) (by kernel_rfl) (by kernel_rfl) (.bool true) (fun _ _ _ h => h) (g_value rfl (wanted_plain rfl) (fun f W hW => run_move (by rfl) (by simp [Act.eval]) W)) ?_
    simp only [Act.put, List.getElem_toArray, List.getElem_cons_succ, List.getElem_cons_zero, List.setIfInBounds_toArray, List.set_cons_zero, List.set_cons_succ]
    refine u_take 1 rfl (o := _) rfl (by kernel_rfl) (by kernel_rfl) (by kernel_rfl) (.bool true) (fun _ _ _ h => h) (g_value rfl (wanted_plain rfl) (fun f W hW => run_move (by rfl) (by simp [Act.eval]) W)) ?_
    simp only [Act.put, List.getElem_toArray, List.getElem_cons_succ, List.getElem_cons_zero, List.setIfInBounds_toArray, List.set_cons_zero, List.set_cons_succ]
    refine u_take 2 rfl (o := _) rfl (by kernel_rfl) (by kernel_rfl) (by kernel_rfl) (.bool true) (fun _ _ _ h => h) (g_value rfl (by simp [Region.wanted, yielded]) (fun f W hW => run_move (by rfl) (by simp [Act.eval]) W)) ?_
    simp only [Act.put, List.getElem_toArray, List.getElem_cons_succ, List.getElem_cons_zero, List.setIfInBounds_toArray, List.set_cons_zero, List.set_cons_succ]
    refine u_take 3 rfl (o := _) rfl (by kernel_rfl) (by kernel_rfl) (by kernel_rfl) (.bool true) (fun _ _ _ h => h) (g_value rfl (wanted_plain rfl) (fun f W hW => run_pick (b := true) (by rfl) (by simp [Act.eval]) (by simp [Act.eval]) W)) ?_
    simp only [Act.put, List.getElem_toArray, List.getElem_cons_succ, List.getElem_cons_zero, List.setIfInBounds_toArray, List.set_cons_zero, List.set_cons_succ]
    refine u_take 4 rfl (o := _) rfl (by kernel_rfl) (by kernel_rfl) (by kernel_rfl) (.bool true) (fun _ _ _ h => h) (g_value rfl (wanted_plain rfl) (fun f W hW => run_move (by rfl) (by simp [Act.eval]) W)) ?_
    simp only [Act.put, List.getElem_toArray, List.getElem_cons_succ, List.getElem_cons_zero, List.setIfInBounds_toArray, List.set_cons_zero, List.set_cons_succ]
    refine u_take 5 rfl (o := _) rfl (by kernel_rfl) (by kernel_rfl) (by kernel_rfl) (.bool true) (fun _ _ _ h => h) (g_value rfl (by simp [Region.wanted, yielded]) (fun f W hW => run_move (by rfl) (by simp [Act.eval]) W)) ?_
    simp only [Act.put, List.getElem_toArray, List.getElem_cons_succ, List.getElem_cons_zero, List.setIfInBounds_toArray, List.set_cons_zero, List.set_cons_succ]
    refine u_take 6 rfl (o := _) rfl (by kernel_rfl) (by kernel_rfl) (by kernel_rfl) (.bool true) (fun _ _ _ h => h) (g_value rfl (wanted_plain rfl) (fun f W hW => run_pick (b := true) (by rfl) (by simp [Act.eval]) (by simp [Act.eval]) W)) ?_
    simp only [Act.put, List.getElem_toArray, List.getElem_cons_succ, List.getElem_cons_zero, List.setIfInBounds_toArray, List.set_cons_zero, List.set_cons_succ]
    refine u_take 7 rfl (o := _) rfl (by kernel_rfl) (by kernel_rfl) (by kernel_rfl) (.bool true) (fun _ _ _ h => h) (g_value rfl (wanted_plain rfl) (fun f W hW => run_move (by rfl) (by simp [Act.eval]) W)) ?_
    simp only [Act.put, List.getElem_toArray, List.getElem_cons_succ, List.getElem_cons_zero, List.setIfInBounds_toArray, List.set_cons_zero, List.set_cons_succ]
    refine u_take 8 rfl (o := _) rfl (by kernel_rfl) (by kernel_rfl) (by kernel_rfl) (.bool true) (fun _ _ _ h => h) (g_value rfl (by simp [Region.wanted, yielded]) (fun f W hW => run_move (by rfl) (by simp [Act.eval]) W)) ?_
    simp only [Act.put, List.getElem_toArray, List.getElem_cons_succ, List.getElem_cons_zero, List.setIfInBounds_toArray, List.set_cons_zero, List.set_cons_succ]
    refine u_take 9 rfl (o := _) rfl (by kernel_rfl) (by kernel_rfl) (by kernel_rfl) (.bool true) (fun _ _ _ h => h) (g_value rfl (wanted_plain rfl) (fun f W hW => run_pick (b := true) (by rfl) (by simp [Act.eval]) (by simp [Act.eval]) W)) ?_
    simp only [Act.put, List.getElem_toArray, List.getElem_cons_succ, List.getElem_cons_zero, List.setIfInBounds_toArray, List.set_cons_zero, List.set_cons_succ]
    refine u_take 10 rfl (o := _) rfl (by kernel_rfl) (by kernel_rfl) (by kernel_rfl) (.bool true) (fun _ _ _ h => h) (g_value rfl (wanted_plain rfl) (fun f W hW => run_move (by rfl) (by simp [Act.eval]) W)) ?_
    simp only [Act.put, List.getElem_toArray, List.getElem_cons_succ, List.getElem_cons_zero, List.setIfInBounds_toArray, List.set_cons_zero, List.set_cons_succ]
    refine u_take 11 rfl (o := _) rfl (by kernel_rfl) (by kernel_rfl) (by kernel_rfl) (.bool false) (fun _ _ _ h => h) (g_value rfl (by simp [Region.wanted, yielded]) (fun f W hW => run_move (by rfl) (by simp [Act.eval]) W)) ?_
    simp only [Act.put, List.getElem_toArray, List.getElem_cons_succ, List.getElem_cons_zero, List.setIfInBounds_toArray, List.set_cons_zero, List.set_cons_succ]
    refine u_take 12 rfl (o := _) rfl (by kernel_rfl) (by kernel_rfl) (by kernel_rfl) (.bool true) (fun _ _ _ h => h) (g_value rfl (by simp [Region.wanted, yielded]) (fun f W hW => run_not (b := false) (by rfl) (by simp [Act.eval]) W)) ?_
    simp only [Act.put, List.getElem_toArray, List.getElem_cons_succ, List.getElem_cons_zero, List.setIfInBounds_toArray, List.set_cons_zero, List.set_cons_succ]
    refine u_take 13 rfl (o := _) rfl (by kernel_rfl) (by kernel_rfl) (by kernel_rfl) (.bool true) (fun _ _ _ h => h) (g_value rfl (wanted_plain rfl) (fun f W hW => run_pick (b := true) (by rfl) (by simp [Act.eval]) (by simp [Act.eval]) W)) ?_
    simp only [Act.put, List.getElem_toArray, List.getElem_cons_succ, List.getElem_cons_zero, List.setIfInBounds_toArray, List.set_cons_zero, List.set_cons_succ]
    refine u_take 14 rfl (o := _) rfl (by kernel_rfl) (by kernel_rfl) (by kernel_rfl) (.bool true) (fun _ _ _ h => h) (g_value rfl (wanted_plain rfl) (fun f W hW => run_move (by rfl) (by simp [Act.eval]) W)) ?_
    simp only [Act.put, List.getElem_toArray, List.getElem_cons_succ, List.getElem_cons_zero, List.setIfInBounds_toArray, List.set_cons_zero, List.set_cons_succ]
    refine u_take 15 rfl (o := _) rfl (by kernel_rfl) (by kernel_rfl) (by kernel_rfl) (.agg (arr a)) (fun _ _ _ h => h) (g_value rfl (by simp [Region.wanted, yielded]) (fun f W hW => run_load_arr (by rfl) (by simp [Act.eval]) ty16 a Ha.out (hW.at_ (w.heap.size, a) (by simp)).cells_arr)) ?_
    simp only [Act.put, List.getElem_toArray, List.getElem_cons_succ, List.getElem_cons_zero, List.setIfInBounds_toArray, List.set_cons_zero, List.set_cons_succ]
    refine u_take 16 rfl (o := _) rfl (by kernel_rfl) (by kernel_rfl) (by kernel_rfl) (.agg (arr e1)) (fun _ _ _ h => h) (g_value rfl (by simp [Region.wanted, yielded]) (fun f W hW => run_build_is (parts := [(0, .const (.int .u8 128))]) (by rfl) [(0, .int .u8 128)] (by rfl) hb1 W)) ?_
    simp only [Act.put, List.getElem_toArray, List.getElem_cons_succ, List.getElem_cons_zero, List.setIfInBounds_toArray, List.set_cons_zero, List.set_cons_succ]
    refine u_take 18 rfl (o := _) rfl (by kernel_rfl) (by kernel_rfl) (by kernel_rfl) (.agg (arr a)) (fun _ _ _ h => h) (g_value rfl (by simp [Region.wanted, yielded]) (fun f W hW => run_load_arr (by rfl) (by simp [Act.eval]) ty16 a Ha.out (hW.at_ (w.heap.size, a) (by simp)).cells_arr)) ?_
    simp only [Act.put, List.getElem_toArray, List.getElem_cons_succ, List.getElem_cons_zero, List.setIfInBounds_toArray, List.set_cons_zero, List.set_cons_succ]
    refine u_take 17 rfl (o := _) rfl (by kernel_rfl) (by kernel_rfl) (by kernel_rfl) (.agg (arr a)) (fun _ _ _ h => h) (g_call rfl (by simp [Region.wanted, yielded]) 22 _ _ rfl #[.agg (arr a), .agg (arr e1)] (by simp [Act.eval]) (enter_mul _) (fun f W hW => Env.call hW (by have h := mul_any a e1 Ha.out He1l.out W; rw [Hae1.out] at h; exact h))) ?_
    simp only [Act.put, List.getElem_toArray, List.getElem_cons_succ, List.getElem_cons_zero, List.setIfInBounds_toArray, List.set_cons_zero, List.set_cons_succ]
    refine u_take 19 rfl (o := _) rfl (by kernel_rfl) (by kernel_rfl) (by kernel_rfl) (.bool true) (fun _ _ _ h => h) (g_value rfl (by simp [Region.wanted, yielded]) (fun f W hW => run_same16 (by rfl) a a (rfl) (by simp [Act.eval]) (by simp [Act.eval]) Ha.out Ha.out W)) ?_
    simp only [Act.put, List.getElem_toArray, List.getElem_cons_succ, List.getElem_cons_zero, List.setIfInBounds_toArray, List.set_cons_zero, List.set_cons_succ]
    refine u_take 20 rfl (o := _) rfl (by kernel_rfl) (by kernel_rfl) (by kernel_rfl) (.bool true) (fun _ _ _ h => h) (g_value rfl (wanted_plain rfl) (fun f W hW => run_pick (b := true) (by rfl) (by simp [Act.eval]) (by simp [Act.eval]) W)) ?_
    simp only [Act.put, List.getElem_toArray, List.getElem_cons_succ, List.getElem_cons_zero, List.setIfInBounds_toArray, List.set_cons_zero, List.set_cons_succ]
    refine u_take 21 rfl (o := _) rfl (by kernel_rfl) (by kernel_rfl) (by kernel_rfl) (.bool true) (fun _ _ _ h => h) (g_value rfl (wanted_plain rfl) (fun f W hW => run_assign (by rfl) (by simp [Act.eval]) W)) ?_
    simp only [Act.put, List.getElem_toArray, List.getElem_cons_succ, List.getElem_cons_zero, List.setIfInBounds_toArray, List.set_cons_zero, List.set_cons_succ]
    refine u_done (by kernel_rfl) (fun W7 hW7 => ?_) _
    go_wp2
    go_ret
    exact ⟨rfl, Env.old hW7⟩
end Go.Proofs.Ytbbfckdcfbacpaa
