/-
  The reference's Matches, walked.
-/
import Derived.Test.YtncaplplkfihgaaGreatDoorHoH
set_option linter.unusedVariables false
set_option linter.unusedSimpArgs false
set_option maxRecDepth 100000
namespace Go.Proofs.YtncaplplkfihgaaGreatDoor
open Go.RowKit
namespace Host
theorem run_neqS {P : Program} {ρ : Operand → Value} {o : Oper} {x y : Operand} {t rt : TypeId} (ho : o.op = .binOp .neq t x y rt) (l m : List UInt8) (hx : ρ x = .string (str l)) (hy : ρ y = .string (str m)) (w : World) :
    (execOp ρ o).run P w = .ok (.value (.bool (!decide (l = m)))) w := by
  unfold execOp
  have eg : (eqGuard .neq t x y (.string (str l)) (.string (str m))).run P w = .ok () w := rfl
  have e : ((str l).toList == (str m).toList) = decide (l = m) := toList_beq l m
  have h : (binOp .neq t (.string (str l)) (.string (str m))).run P w = .ok (.bool (!decide (l = m))) w := by
    show (Op.stringOp .neq (str l) (str m)).run P w = _
    simp [Op.stringOp, e]
  simp only [ho, hx, hy, Sem.run_bind]
  rw [eg, Result.andThen_ok, h]
  rfl
theorem take2_short {p : List UInt8} (h : p.length < 2) : ¬ p.take 2 = [42, 46] := by
  intro h2
  have := congrArg List.length h2
  rw [List.length_take] at this
  simp at this
  omega
/-- Where no dot is, nothing is behind it; low keeps lengths. -/
theorem behind_none {n : List UInt8} (h : Lib.indexByte n 46 = -1) : behind n = [] := by unfold behind; rw [h]; rfl
theorem behind_at {n : List UInt8} {i : Nat} (h : Lib.indexByte n 46 = (i : Int)) : behind n = n.drop (i + 1) := by unfold behind; rw [h]
end Host
theorem enter_small (args : Array Value) (w : World) : (callFunc 15 args).run Tryz.prog w = .ok (.enter 15 args) w := by kernel_rfl
theorem run_addI {P : Program} {w : World} {o : Oper} {ρ : Operand → Value} {x y : Operand} {t rt : TypeId} (ho : o.op = .binOp .add t x y rt) (i j k : Int) (hx : ρ x = .int .i64 i) (hy : ρ y = .int .i64 j) (hk : IntKind.i64.wrap (i + j) = k) : (execOp ρ o).run P w = .ok (.value (.int .i64 k)) w := by
  subst hk
  unfold execOp
  simp only [ho, hx, hy]
  simp [go_sem]
set_option maxHeartbeats 4000000 in
set_option maxRecDepth 100000 in
theorem RMatches_none (p n : List UInt8) (H1 : Hd (∀ w, Calls Tryz.prog 11 #[.string (str n)] w fun e w' => e = .returned (.int .i64 0) ∧ w' = w)) (w : World) : Calls Tryz.prog 8 #[.string (str p), .string (str n)] w fun e w' => e = .returned (.bool false) ∧ Below w.heap.size w w' := by
  go_enter Tryz.func8, Tryz.ntmps8
  go_wp2_with (first
        | ((with_reducible refine (H1.out _).mono ?_); rintro e w1 ⟨rfl, rfl⟩))
  go_ret
  exact ⟨rfl, Below.refl _ _⟩
set_option maxHeartbeats 4000000 in
set_option maxRecDepth 100000 in
theorem RMatches_plain (p n : List UInt8) (k m : Int) (hk : 0 < k) (hm : 0 < m) (H1 : Hd (∀ w, Calls Tryz.prog 11 #[.string (str n)] w fun e w' => e = .returned (.int .i64 k) ∧ w' = w)) (H2 : Hd (∀ w, Calls Tryz.prog 11 #[.string (str p)] w fun e w' => e = .returned (.int .i64 m) ∧ w' = w)) (p' n' : ByteArray) (H3 : Hd (∀ w, Calls Tryz.prog 15 #[.string (str p)] w fun e w' => e = .returned (.string p') ∧ Below w.heap.size w w')) (H4 : Hd (∀ w, Calls Tryz.prog 15 #[.string (str n)] w fun e w' => e = .returned (.string n') ∧ Below w.heap.size w w')) (w : World) : Calls Tryz.prog 8 #[.string (str p), .string (str n)] w fun e w' => e = .returned (.bool (p'.toList == n'.toList)) ∧ Below w.heap.size w w' := by
  have q : (k == 0) = false := by rw [beq_eq_false_iff_ne]; omega
  have q2 : ¬ k = 0 := by omega
  go_enter Tryz.func8, Tryz.ntmps8
  go_wp2_with (first
        | ((with_reducible refine (H4.out _).mono ?_); rintro e w5 ⟨rfl, hB5⟩)
        | ((with_reducible refine (H3.out _).mono ?_); rintro e w4 ⟨rfl, hB4⟩)
        | ((with_reducible refine (H2.out _).mono ?_); rintro e w2 ⟨rfl, rfl⟩)
        | ((with_reducible refine (H1.out _).mono ?_); rintro e w1 ⟨rfl, rfl⟩))
  go_ret
  exact ⟨rfl, Host.size2 hB4 hB5⟩
set_option maxHeartbeats 4000000 in
set_option maxRecDepth 100000 in
theorem RMatches_short (p n : List UInt8) (k : Int) (hk : 0 < k) (H1 : Hd (∀ w, Calls Tryz.prog 11 #[.string (str n)] w fun e w' => e = .returned (.int .i64 k) ∧ w' = w)) (H2 : Hd (∀ w, Calls Tryz.prog 11 #[.string (str p)] w fun e w' => e = .returned (.int .i64 0) ∧ w' = w)) (h : p.length < 2) (w : World) : Calls Tryz.prog 8 #[.string (str p), .string (str n)] w fun e w' => e = .returned (.bool false) ∧ Below w.heap.size w w' := by
  have q : (k == 0) = false := by rw [beq_eq_false_iff_ne]; omega
  have q2 : ¬ k = 0 := by omega
  obtain ⟨P, HP⟩ : ∃ x, Hd (p.length = x) := ⟨_, ⟨rfl⟩⟩
  rw [HP.out] at h
  have t0 : (P : Int) < 2 := by omega
  clear h
  go_enter Tryz.func8, Tryz.ntmps8
  go_wp2_with (first
        | (with_reducible change wpList _ _ _ (⟨some 18, _, _, _, _, _⟩ :: _) _ _; refine wpl_run (o := ⟨some 18, _, _, _, _, _⟩) (by simp [Region.wanted, yielded, Act.put]) (.int .i64 ((P : Nat) : Int)) (HP.out ▸ run_lenS (by rfl) Tryz.underlying9 p (by simp [Act.eval, Act.put])) ?_)
        | ((with_reducible refine (H2.out _).mono ?_); rintro e w2 ⟨rfl, rfl⟩)
        | ((with_reducible refine (H1.out _).mono ?_); rintro e w1 ⟨rfl, rfl⟩))
  go_ret
  exact ⟨rfl, Below.refl _ _⟩
set_option maxHeartbeats 4000000 in
set_option maxRecDepth 100000 in
theorem RMatches_other (p n : List UInt8) (k : Int) (hk : 0 < k) (H1 : Hd (∀ w, Calls Tryz.prog 11 #[.string (str n)] w fun e w' => e = .returned (.int .i64 k) ∧ w' = w)) (H2 : Hd (∀ w, Calls Tryz.prog 11 #[.string (str p)] w fun e w' => e = .returned (.int .i64 0) ∧ w' = w)) (h : ¬ p.length < 2) (h2 : ¬ p.take 2 = [42, 46]) (w : World) : Calls Tryz.prog 8 #[.string (str p), .string (str n)] w fun e w' => e = .returned (.bool false) ∧ Below w.heap.size w w' := by
  have q : (k == 0) = false := by rw [beq_eq_false_iff_ne]; omega
  have q2 : ¬ k = 0 := by omega
  obtain ⟨P, HP⟩ : ∃ x, Hd (p.length = x) := ⟨_, ⟨rfl⟩⟩
  have hneq := hd (show (!decide (p.take 2 = [42, 46])) = true by simp [h2])
  rw [HP.out] at h
  have t0 : decide ((P : Int) < 2) = false := decide_eq_false (by omega)
  have t00 : 2 ≤ (P : Int) := by omega
  have h3 : 2 ≤ P := by omega
  clear h h2
  go_enter Tryz.func8, Tryz.ntmps8
  go_wp2_with (first
        | (with_reducible change wpList _ _ _ (⟨some 23, _, _, _, _, _⟩ :: _) _ _; refine wpl_run (o := ⟨some 23, _, _, _, _, _⟩) (by simp [Region.wanted, yielded, Act.put]) (.bool true) (hneq.out ▸ Host.run_neqS (by rfl) (p.take 2) [42, 46] (by simp [Act.eval, Act.put]) rfl _) ?_)
        | (with_reducible change wpList _ _ _ (⟨some 22, _, _, _, _, _⟩ :: _) _ _; refine wpl_run (o := ⟨some 22, _, _, _, _, _⟩) (by simp [Region.wanted, yielded, Act.put]) (.string (str ((p.drop 0).take (2 - 0)))) (run_toS (by rfl) Tryz.underlying9 p 2 (by simp [Act.eval, Act.put]) (by simp [Act.eval, Act.put]) (by rw [HP.out]; exact h3)) ?_)
        | (with_reducible change wpList _ _ _ (⟨some 18, _, _, _, _, _⟩ :: _) _ _; refine wpl_run (o := ⟨some 18, _, _, _, _, _⟩) (by simp [Region.wanted, yielded, Act.put]) (.int .i64 ((P : Nat) : Int)) (HP.out ▸ run_lenS (by rfl) Tryz.underlying9 p (by simp [Act.eval, Act.put])) ?_)
        | ((with_reducible refine (H2.out _).mono ?_); rintro e w2 ⟨rfl, rfl⟩)
        | ((with_reducible refine (H1.out _).mono ?_); rintro e w1 ⟨rfl, rfl⟩))
  go_ret
  exact ⟨rfl, Below.refl _ _⟩
set_option maxHeartbeats 4000000 in
set_option maxRecDepth 100000 in
theorem RMatches_few (p n : List UInt8) (k r : Int) (hk : 0 < k) (hr : r < 2) (H1 : Hd (∀ w, Calls Tryz.prog 11 #[.string (str n)] w fun e w' => e = .returned (.int .i64 k) ∧ w' = w)) (H2 : Hd (∀ w, Calls Tryz.prog 11 #[.string (str p)] w fun e w' => e = .returned (.int .i64 0) ∧ w' = w)) (H5 : Hd (∀ w, Calls Tryz.prog 11 #[.string (str (p.drop 2))] w fun e w' => e = .returned (.int .i64 r) ∧ w' = w)) (h : ¬ p.length < 2) (h2 : p.take 2 = [42, 46]) (w : World) : Calls Tryz.prog 8 #[.string (str p), .string (str n)] w fun e w' => e = .returned (.bool false) ∧ Below w.heap.size w w' := by
  have q : (k == 0) = false := by rw [beq_eq_false_iff_ne]; omega
  have q2 : ¬ k = 0 := by omega
  obtain ⟨P, HP⟩ : ∃ x, Hd (p.length = x) := ⟨_, ⟨rfl⟩⟩
  have hneq := hd (show (!decide (p.take 2 = [42, 46])) = false by simp [h2])
  rw [HP.out] at h
  have t0 : decide ((P : Int) < 2) = false := decide_eq_false (by omega)
  have t00 : 2 ≤ (P : Int) := by omega
  have h3 : 2 ≤ P := by omega
  clear h h2
  go_enter Tryz.func8, Tryz.ntmps8
  go_wp2_with (first
        | ((with_reducible refine (H5.out _).mono ?_); rintro e w3 ⟨rfl, rfl⟩)
        | (with_reducible change wpList _ _ _ (⟨some 27, _, _, _, _, _⟩ :: _) _ _; refine wpl_run (o := ⟨some 27, _, _, _, _, _⟩) (by simp [Region.wanted, yielded, Act.put]) (.string (str (p.drop 2))) (run_fromS (by rfl) Tryz.underlying9 p 2 (by simp [Act.eval, Act.put]) (by simp [Act.eval, Act.put]) (by rw [HP.out]; exact h3)) ?_)
        | (with_reducible change wpList _ _ _ (⟨some 23, _, _, _, _, _⟩ :: _) _ _; refine wpl_run (o := ⟨some 23, _, _, _, _, _⟩) (by simp [Region.wanted, yielded, Act.put]) (.bool false) (hneq.out ▸ Host.run_neqS (by rfl) (p.take 2) [42, 46] (by simp [Act.eval, Act.put]) rfl _) ?_)
        | (with_reducible change wpList _ _ _ (⟨some 22, _, _, _, _, _⟩ :: _) _ _; refine wpl_run (o := ⟨some 22, _, _, _, _, _⟩) (by simp [Region.wanted, yielded, Act.put]) (.string (str ((p.drop 0).take (2 - 0)))) (run_toS (by rfl) Tryz.underlying9 p 2 (by simp [Act.eval, Act.put]) (by simp [Act.eval, Act.put]) (by rw [HP.out]; exact h3)) ?_)
        | (with_reducible change wpList _ _ _ (⟨some 18, _, _, _, _, _⟩ :: _) _ _; refine wpl_run (o := ⟨some 18, _, _, _, _, _⟩) (by simp [Region.wanted, yielded, Act.put]) (.int .i64 ((P : Nat) : Int)) (HP.out ▸ run_lenS (by rfl) Tryz.underlying9 p (by simp [Act.eval, Act.put])) ?_)
        | ((with_reducible refine (H2.out _).mono ?_); rintro e w2 ⟨rfl, rfl⟩)
        | ((with_reducible refine (H1.out _).mono ?_); rintro e w1 ⟨rfl, rfl⟩))
  go_ret
  exact ⟨rfl, Below.refl _ _⟩
set_option maxHeartbeats 4000000 in
set_option maxRecDepth 100000 in
theorem RMatches_star (p n : List UInt8) (k r : Int) (hk : 0 < k) (hr : ¬ r < 2) (H1 : Hd (∀ w, Calls Tryz.prog 11 #[.string (str n)] w fun e w' => e = .returned (.int .i64 k) ∧ w' = w)) (H2 : Hd (∀ w, Calls Tryz.prog 11 #[.string (str p)] w fun e w' => e = .returned (.int .i64 0) ∧ w' = w)) (H5 : Hd (∀ w, Calls Tryz.prog 11 #[.string (str (p.drop 2))] w fun e w' => e = .returned (.int .i64 r) ∧ w' = w)) (h : ¬ p.length < 2) (h2 : p.take 2 = [42, 46]) (hn : n.length ≤ 9223372036854775800) (i : Nat) (hi : i < n.length) (hno : ∀ j, j < i → nth n j ≠ 46) (hat : i < n.length → nth n i = 46) (pl nl : List UInt8) (H3 : Hd (∀ w, Calls Tryz.prog 15 #[.string (str (p.drop 2))] w fun e w' => e = .returned (.string (str pl)) ∧ Below w.heap.size w w')) (H4 : Hd (∀ w, Calls Tryz.prog 15 #[.string (str (n.drop (i + 1)))] w fun e w' => e = .returned (.string (str nl)) ∧ Below w.heap.size w w')) (w : World) : Calls Tryz.prog 8 #[.string (str p), .string (str n)] w fun e w' => e = .returned (.bool (decide (nl = pl))) ∧ Below w.heap.size w w' := by
  have q : (k == 0) = false := by rw [beq_eq_false_iff_ne]; omega
  have q2 : ¬ k = 0 := by omega
  obtain ⟨P, HP⟩ : ∃ x, Hd (p.length = x) := ⟨_, ⟨rfl⟩⟩
  have hneq := hd (show (!decide (p.take 2 = [42, 46])) = false by simp [h2])
  obtain ⟨N, HN⟩ : ∃ x, Hd (n.length = x) := ⟨_, ⟨rfl⟩⟩
  rw [HP.out] at h
  rw [HN.out] at hn hi hat
  have t0 : decide ((P : Int) < 2) = false := decide_eq_false (by omega)
  have t00 : 2 ≤ (P : Int) := by omega
  have h3 : 2 ≤ P := by omega
  clear h h2
  go_enter Tryz.func8, Tryz.ntmps8
  go_wp2_with (first
        | ((with_reducible refine (H5.out _).mono ?_); rintro e w3 ⟨rfl, rfl⟩)
        | (with_reducible change wpList _ _ _ (⟨some 27, _, _, _, _, _⟩ :: _) _ _; refine wpl_run (o := ⟨some 27, _, _, _, _, _⟩) (by simp [Region.wanted, yielded, Act.put]) (.string (str (p.drop 2))) (run_fromS (by rfl) Tryz.underlying9 p 2 (by simp [Act.eval, Act.put]) (by simp [Act.eval, Act.put]) (by rw [HP.out]; exact h3)) ?_)
        | (with_reducible change wpList _ _ _ (⟨some 23, _, _, _, _, _⟩ :: _) _ _; refine wpl_run (o := ⟨some 23, _, _, _, _, _⟩) (by simp [Region.wanted, yielded, Act.put]) (.bool false) (hneq.out ▸ Host.run_neqS (by rfl) (p.take 2) [42, 46] (by simp [Act.eval, Act.put]) rfl _) ?_)
        | (with_reducible change wpList _ _ _ (⟨some 22, _, _, _, _, _⟩ :: _) _ _; refine wpl_run (o := ⟨some 22, _, _, _, _, _⟩) (by simp [Region.wanted, yielded, Act.put]) (.string (str ((p.drop 0).take (2 - 0)))) (run_toS (by rfl) Tryz.underlying9 p 2 (by simp [Act.eval, Act.put]) (by simp [Act.eval, Act.put]) (by rw [HP.out]; exact h3)) ?_)
        | (with_reducible change wpList _ _ _ (⟨some 18, _, _, _, _, _⟩ :: _) _ _; refine wpl_run (o := ⟨some 18, _, _, _, _, _⟩) (by simp [Region.wanted, yielded, Act.put]) (.int .i64 ((P : Nat) : Int)) (HP.out ▸ run_lenS (by rfl) Tryz.underlying9 p (by simp [Act.eval, Act.put])) ?_)
        | ((with_reducible refine (H2.out _).mono ?_); rintro e w2 ⟨rfl, rfl⟩)
        | ((with_reducible refine (H1.out _).mono ?_); rintro e w1 ⟨rfl, rfl⟩))
  clear t0 t00 q q2
  go_loopw [5] (fun s5 wr => wr = w3 ∧ ∃ k : Nat, k ≤ i ∧ s5 = .int .i64 (k : Int)) (fun s5 _ => N - (intOf s5).toNat)
  case atStart => exact ⟨rfl, 0, Nat.zero_le _, rfl⟩
  case round =>
    obtain ⟨ew, j, hj, rfl⟩ := hrel
    rw [ew]
    clear ew
    have tj : (j : Int) ≤ (N : Int) := by omega
    by_cases hlt : j < N
    · have tlt : (j : Int) < (N : Int) := by omega
      obtain ⟨x, Hx⟩ : ∃ y, Hd (nth n j = y) := ⟨_, ⟨rfl⟩⟩
      by_cases h46 : x = 46
      · have e : j = i := by
          rcases Nat.lt_or_ge j i with h4 | h4
          · exact absurd (by rw [Hx.out]; exact h46) (hno j h4)
          · omega
        subst e
        have q46 : (x == 46) = true := by rw [h46]; rfl
        clear hat hno h46 hi
        go_wp2_with (first
              | (with_reducible change wpList _ _ _ (⟨some 39, _, _, _, _, _⟩ :: _) _ _; refine wpl_run (o := ⟨some 39, _, _, _, _, _⟩) (by simp [Region.wanted, yielded, Act.put]) (.int .u8 ((n8 x : Nat) : Int)) (Hx.out ▸ run_idxS (by rfl) Tryz.underlying9 n j (by simp [Act.eval, Act.put]) (by simp [Act.eval, Act.put]) (by rw [HN.out]; exact hlt)) ?_)
              | (with_reducible change wpList _ _ _ (⟨some 33, _, _, _, _, _⟩ :: _) _ _; refine wpl_run (o := ⟨some 33, _, _, _, _, _⟩) (by simp [Region.wanted, yielded, Act.put]) (.int .i64 ((N : Nat) : Int)) (HN.out ▸ run_lenS (by rfl) Tryz.underlying9 n (by simp [Act.eval, Act.put])) ?_))
        have hj1 : IntKind.i64.wrap ((j : Int) + 1) = ((j + 1 : Nat) : Int) := by rw [show ((j : Int) + 1) = ((j + 1 : Nat) : Int) by omega]; exact IntWalk.i64_in _ (by omega)
        have hS0 : Below w3.heap.size w3 w3 := Below.refl _ _
        refine wp_region_held_drew (S := fun W => Below w3.heap.size w3 W) (by kernel_rfl) hS0.drew ?_
        intro hS1
        refine held_take 0 (o := _) rfl (by kernel_rfl) (by kernel_rfl) (by kernel_rfl) rfl (.string (str n)) (fun _ _ _ h => h) (fun W hW => run_move (by rfl) (by simp [Act.eval]) W) (by assumption) ?_
        simp only [Act.put, List.getElem_toArray, List.getElem_cons_succ, List.getElem_cons_zero, List.setIfInBounds_toArray, List.set_cons_zero, List.set_cons_succ]
        refine held_take 1 (o := _) rfl (by kernel_rfl) (by kernel_rfl) (by kernel_rfl) rfl (.int .i64 (j : Int)) (fun _ _ _ h => h) (fun W hW => run_move (by rfl) (by simp [Act.eval]) W) (by assumption) ?_
        simp only [Act.put, List.getElem_toArray, List.getElem_cons_succ, List.getElem_cons_zero, List.setIfInBounds_toArray, List.set_cons_zero, List.set_cons_succ]
        refine held_take 2 (o := _) rfl (by kernel_rfl) (by kernel_rfl) (by kernel_rfl) rfl (.int .i64 ((j + 1 : Nat) : Int)) (fun _ _ _ h => h) (fun W hW => run_addI (by rfl) _ _ _ (by simp [Act.eval]) (by simp [Act.eval]) hj1) (by assumption) ?_
        simp only [Act.put, List.getElem_toArray, List.getElem_cons_succ, List.getElem_cons_zero, List.setIfInBounds_toArray, List.set_cons_zero, List.set_cons_succ]
        refine held_take 3 (o := _) rfl (by kernel_rfl) (by kernel_rfl) (by kernel_rfl) rfl (.string (str (n.drop (j + 1)))) (fun _ _ _ h => h) (fun W hW => run_fromS (by rfl) Tryz.underlying9 n (j + 1) (by simp [Act.eval]) (by simp [Act.eval]) (by rw [HN.out]; omega)) (by assumption) ?_
        simp only [Act.put, List.getElem_toArray, List.getElem_cons_succ, List.getElem_cons_zero, List.setIfInBounds_toArray, List.set_cons_zero, List.set_cons_succ]
        refine held_take 5 (o := _) rfl (by kernel_rfl) (by kernel_rfl) (by kernel_rfl) rfl (.string (str p)) (fun _ _ _ h => h) (fun W hW => run_move (by rfl) (by simp [Act.eval]) W) (by assumption) ?_
        simp only [Act.put, List.getElem_toArray, List.getElem_cons_succ, List.getElem_cons_zero, List.setIfInBounds_toArray, List.set_cons_zero, List.set_cons_succ]
        refine held_take 6 (o := _) rfl (by kernel_rfl) (by kernel_rfl) (by kernel_rfl) rfl (.string (str (p.drop 2))) (fun _ _ _ h => h) (fun W hW => run_fromS (by rfl) Tryz.underlying9 p 2 (by simp [Act.eval]) (by simp [Act.eval]) (by rw [HP.out]; exact h3)) (by assumption) ?_
        simp only [Act.put, List.getElem_toArray, List.getElem_cons_succ, List.getElem_cons_zero, List.setIfInBounds_toArray, List.set_cons_zero, List.set_cons_succ]
        refine held_callG 4 (by kernel_rfl) (o := _) rfl (by simp [Region.wanted, yielded]) 15 _ _ rfl #[.string (str (n.drop (j + 1)))] (by simp [Act.eval]) (enter_small _) ?_
        refine (H4.out _).mono ?_
        rintro e w5 ⟨rfl, hBw5⟩
        refine ⟨_, rfl, Host.size2 hS1 hBw5, ?_⟩
        intro hSw5
        simp only [Act.put, List.getElem_toArray, List.getElem_cons_succ, List.getElem_cons_zero, List.setIfInBounds_toArray, List.set_cons_zero, List.set_cons_succ]
        refine held_callG 7 (by kernel_rfl) (o := _) rfl (by simp [Region.wanted, yielded]) 15 _ _ rfl #[.string (str (p.drop 2))] (by simp [Act.eval]) (enter_small _) ?_
        refine (H3.out _).mono ?_
        rintro e w6 ⟨rfl, hBw6⟩
        refine ⟨_, rfl, Host.size2 hSw5 hBw6, ?_⟩
        intro hSw6
        simp only [Act.put, List.getElem_toArray, List.getElem_cons_succ, List.getElem_cons_zero, List.setIfInBounds_toArray, List.set_cons_zero, List.set_cons_succ]
        refine held_take 8 (o := _) rfl (by kernel_rfl) (by kernel_rfl) (by kernel_rfl) rfl (.bool (decide (nl = pl))) (fun _ _ _ h => h) (fun W hW => run_eqStr (by rfl) nl pl (by simp [Act.eval]) (by simp [Act.eval]) W) (by assumption) ?_
        simp only [Act.put, List.getElem_toArray, List.getElem_cons_succ, List.getElem_cons_zero, List.setIfInBounds_toArray, List.set_cons_zero, List.set_cons_succ]
        refine held_take 9 (o := _) rfl (by kernel_rfl) (by kernel_rfl) (by kernel_rfl) rfl (.bool (decide (nl = pl))) (fun _ _ _ h => h) (fun W hW => run_assign (by rfl) (by simp [Act.eval]) W) (by assumption) ?_
        simp only [Act.put, List.getElem_toArray, List.getElem_cons_succ, List.getElem_cons_zero, List.setIfInBounds_toArray, List.set_cons_zero, List.set_cons_succ]
        refine wpAnyH_done (by kernel_rfl) ?_ _
        go_wp2
        go_ret
        exact ⟨rfl, hSw6⟩
      · have q46 : (x == 46) = false := by rw [beq_eq_false_iff_ne]; exact h46
        have hji : j < i := by
          rcases Nat.lt_or_ge j i with h4 | h4
          · exact h4
          · exact absurd ((Hx.out).symm.trans (by rw [show j = i by omega]; exact hat (by omega))) h46
        go_wp2_with (first
              | (with_reducible change wpList _ _ _ (⟨some 39, _, _, _, _, _⟩ :: _) _ _; refine wpl_run (o := ⟨some 39, _, _, _, _, _⟩) (by simp [Region.wanted, yielded, Act.put]) (.int .u8 ((n8 x : Nat) : Int)) (Hx.out ▸ run_idxS (by rfl) Tryz.underlying9 n j (by simp [Act.eval, Act.put]) (by simp [Act.eval, Act.put]) (by rw [HN.out]; exact hlt)) ?_)
              | (with_reducible change wpList _ _ _ (⟨some 33, _, _, _, _, _⟩ :: _) _ _; refine wpl_run (o := ⟨some 33, _, _, _, _, _⟩) (by simp [Region.wanted, yielded, Act.put]) (.int .i64 ((N : Nat) : Int)) (HN.out ▸ run_lenS (by rfl) Tryz.underlying9 n (by simp [Act.eval, Act.put])) ?_))
        go_roundw
        case rel => exact ⟨trivial, j + 1, by omega, by go_num⟩
        case measure => simp [intOf]; omega
    · have tlt : ¬ (j : Int) < (N : Int) := by omega
      exact absurd hi (by omega)
set_option maxHeartbeats 4000000 in
set_option maxRecDepth 100000 in
theorem RMatches_star0 (p n : List UInt8) (k r : Int) (hk : 0 < k) (hr : ¬ r < 2) (H1 : Hd (∀ w, Calls Tryz.prog 11 #[.string (str n)] w fun e w' => e = .returned (.int .i64 k) ∧ w' = w)) (H2 : Hd (∀ w, Calls Tryz.prog 11 #[.string (str p)] w fun e w' => e = .returned (.int .i64 0) ∧ w' = w)) (H5 : Hd (∀ w, Calls Tryz.prog 11 #[.string (str (p.drop 2))] w fun e w' => e = .returned (.int .i64 r) ∧ w' = w)) (h : ¬ p.length < 2) (h2 : p.take 2 = [42, 46]) (hn : n.length ≤ 9223372036854775800) (i : Nat) (hi : i = n.length) (hno : ∀ j, j < i → nth n j ≠ 46) (hat : i < n.length → nth n i = 46) (pl nl : List UInt8) (H3 : Hd (∀ w, Calls Tryz.prog 15 #[.string (str (p.drop 2))] w fun e w' => e = .returned (.string (str pl)) ∧ Below w.heap.size w w')) (H4 : Hd (∀ w, Calls Tryz.prog 15 #[.string (str (n.drop (i + 1)))] w fun e w' => e = .returned (.string (str nl)) ∧ Below w.heap.size w w')) (w : World) : Calls Tryz.prog 8 #[.string (str p), .string (str n)] w fun e w' => e = .returned (.bool false) ∧ Below w.heap.size w w' := by
  have q : (k == 0) = false := by rw [beq_eq_false_iff_ne]; omega
  have q2 : ¬ k = 0 := by omega
  obtain ⟨P, HP⟩ : ∃ x, Hd (p.length = x) := ⟨_, ⟨rfl⟩⟩
  have hneq := hd (show (!decide (p.take 2 = [42, 46])) = false by simp [h2])
  obtain ⟨N, HN⟩ : ∃ x, Hd (n.length = x) := ⟨_, ⟨rfl⟩⟩
  rw [HP.out] at h
  rw [HN.out] at hn hi hat
  have t0 : decide ((P : Int) < 2) = false := decide_eq_false (by omega)
  have t00 : 2 ≤ (P : Int) := by omega
  have h3 : 2 ≤ P := by omega
  clear h h2
  go_enter Tryz.func8, Tryz.ntmps8
  go_wp2_with (first
        | ((with_reducible refine (H5.out _).mono ?_); rintro e w3 ⟨rfl, rfl⟩)
        | (with_reducible change wpList _ _ _ (⟨some 27, _, _, _, _, _⟩ :: _) _ _; refine wpl_run (o := ⟨some 27, _, _, _, _, _⟩) (by simp [Region.wanted, yielded, Act.put]) (.string (str (p.drop 2))) (run_fromS (by rfl) Tryz.underlying9 p 2 (by simp [Act.eval, Act.put]) (by simp [Act.eval, Act.put]) (by rw [HP.out]; exact h3)) ?_)
        | (with_reducible change wpList _ _ _ (⟨some 23, _, _, _, _, _⟩ :: _) _ _; refine wpl_run (o := ⟨some 23, _, _, _, _, _⟩) (by simp [Region.wanted, yielded, Act.put]) (.bool false) (hneq.out ▸ Host.run_neqS (by rfl) (p.take 2) [42, 46] (by simp [Act.eval, Act.put]) rfl _) ?_)
        | (with_reducible change wpList _ _ _ (⟨some 22, _, _, _, _, _⟩ :: _) _ _; refine wpl_run (o := ⟨some 22, _, _, _, _, _⟩) (by simp [Region.wanted, yielded, Act.put]) (.string (str ((p.drop 0).take (2 - 0)))) (run_toS (by rfl) Tryz.underlying9 p 2 (by simp [Act.eval, Act.put]) (by simp [Act.eval, Act.put]) (by rw [HP.out]; exact h3)) ?_)
        | (with_reducible change wpList _ _ _ (⟨some 18, _, _, _, _, _⟩ :: _) _ _; refine wpl_run (o := ⟨some 18, _, _, _, _, _⟩) (by simp [Region.wanted, yielded, Act.put]) (.int .i64 ((P : Nat) : Int)) (HP.out ▸ run_lenS (by rfl) Tryz.underlying9 p (by simp [Act.eval, Act.put])) ?_)
        | ((with_reducible refine (H2.out _).mono ?_); rintro e w2 ⟨rfl, rfl⟩)
        | ((with_reducible refine (H1.out _).mono ?_); rintro e w1 ⟨rfl, rfl⟩))
  clear t0 t00 q q2
  go_loopw [5] (fun s5 wr => wr = w3 ∧ ∃ k : Nat, k ≤ i ∧ s5 = .int .i64 (k : Int)) (fun s5 _ => N - (intOf s5).toNat)
  case atStart => exact ⟨rfl, 0, Nat.zero_le _, rfl⟩
  case round =>
    obtain ⟨ew, j, hj, rfl⟩ := hrel
    rw [ew]
    clear ew
    have tj : (j : Int) ≤ (N : Int) := by omega
    by_cases hlt : j < N
    · have tlt : (j : Int) < (N : Int) := by omega
      obtain ⟨x, Hx⟩ : ∃ y, Hd (nth n j = y) := ⟨_, ⟨rfl⟩⟩
      by_cases h46 : x = 46
      · have e : j = i := by
          rcases Nat.lt_or_ge j i with h4 | h4
          · exact absurd (by rw [Hx.out]; exact h46) (hno j h4)
          · omega
        subst e
        exact absurd hi (by omega)
      · have q46 : (x == 46) = false := by rw [beq_eq_false_iff_ne]; exact h46
        have hji : j < i := by
          rcases Nat.lt_or_ge j i with h4 | h4
          · exact h4
          · exact absurd ((Hx.out).symm.trans (by rw [show j = i by omega]; exact hat (by omega))) h46
        go_wp2_with (first
              | (with_reducible change wpList _ _ _ (⟨some 39, _, _, _, _, _⟩ :: _) _ _; refine wpl_run (o := ⟨some 39, _, _, _, _, _⟩) (by simp [Region.wanted, yielded, Act.put]) (.int .u8 ((n8 x : Nat) : Int)) (Hx.out ▸ run_idxS (by rfl) Tryz.underlying9 n j (by simp [Act.eval, Act.put]) (by simp [Act.eval, Act.put]) (by rw [HN.out]; exact hlt)) ?_)
              | (with_reducible change wpList _ _ _ (⟨some 33, _, _, _, _, _⟩ :: _) _ _; refine wpl_run (o := ⟨some 33, _, _, _, _, _⟩) (by simp [Region.wanted, yielded, Act.put]) (.int .i64 ((N : Nat) : Int)) (HN.out ▸ run_lenS (by rfl) Tryz.underlying9 n (by simp [Act.eval, Act.put])) ?_))
        go_roundw
        case rel => exact ⟨trivial, j + 1, by omega, by go_num⟩
        case measure => simp [intOf]; omega
    · have tlt : ¬ (j : Int) < (N : Int) := by omega
      go_wp2_with (first
        | (with_reducible change wpList _ _ _ (⟨some 33, _, _, _, _, _⟩ :: _) _ _; refine wpl_run (o := ⟨some 33, _, _, _, _, _⟩) (by simp [Region.wanted, yielded, Act.put]) (.int .i64 ((N : Nat) : Int)) (HN.out ▸ run_lenS (by rfl) Tryz.underlying9 n (by simp [Act.eval, Act.put])) ?_))
      go_ret
      exact ⟨rfl, Below.refl _ _⟩
end Go.Proofs.YtncaplplkfihgaaGreatDoor
