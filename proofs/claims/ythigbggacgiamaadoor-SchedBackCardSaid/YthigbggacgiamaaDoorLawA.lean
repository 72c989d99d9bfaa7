/-
  The head of law 19.
-/
import Derived.Test.YthigbggacgiamaaDoorJm
set_option linter.unusedVariables false
set_option linter.unusedSimpArgs false
set_option maxRecDepth 100000
namespace Go.Proofs.YthigbggacgiamaaDoor
open Go.RowKit
theorem early_head : (Sched.early 1 []).take 4 = [51, 173, 10, 28] := by decide +kernel
theorem newTr_some (w : World) : Calls Tryd.prog 10 #[] w fun e w' => ∃ t, e = .returned (.pointer (some ⟨t, 0, none⟩)) ∧ Below w.heap.size w w' := by
  go_enter Tryd.func10, Tryd.ntmps10
  go_wp2_with (first | (go_at_call 22; refine (new_all 3 (.inr (.inr rfl)) w2).mono ?_; rintro e w3 ⟨g3, rfl, eg3, d3, hB3⟩; have Eg3 := hd eg3; clear eg3) | (go_at_call 22; refine (new_all 2 (.inr (.inl rfl)) w1).mono ?_; rintro e w2 ⟨g2, rfl, eg2, d2, hB2⟩; have Eg2 := hd eg2; clear eg2) | (go_at_call 22; refine (new_all 1 (.inl rfl) w).mono ?_; rintro e w1 ⟨g1, rfl, eg1, d1, hB1⟩; have Eg1 := hd eg1; clear eg1))
  go_ret
  have hB12 := hB1.trans (hB2.mono hB1.size)
  have hB123 := hB12.trans (hB3.mono hB12.size)
  exact ⟨_, rfl, hB123.alloc hB123.size _⟩
theorem nth_take (l : List UInt8) (n i : Nat) (h : i < n) : nth (l.take n) i = nth l i := by
  unfold nth
  rw [List.getD_eq_getElem?_getD, List.getD_eq_getElem?_getD, List.getElem?_take_of_lt h]
theorem head19_any (w : World) (htb : Tabs w) : Calls Tryd.prog 4 #[] w fun e w' => e = .returned (.bool true) ∧ Below w.heap.size w w' := by
  obtain ⟨E, HE⟩ : ∃ x, Hd (Sched.early 1 [] = x) := ⟨_, ⟨rfl⟩⟩
  have HEl := hd (show E.length = 32 by rw [← HE.out]; exact Mac.code_len 1 _ _)
  have HEt := hd (show E.take 4 = [51, 173, 10, 28] by rw [← HE.out]; exact early_head)
  have HE0 := hd (show nth E 0 = 51 by rw [← nth_take E 4 0 (by omega), HEt.out]; rfl)
  have HE1 := hd (show nth E 1 = 173 by rw [← nth_take E 4 1 (by omega), HEt.out]; rfl)
  have HE2 := hd (show nth E 2 = 10 by rw [← nth_take E 4 2 (by omega), HEt.out]; rfl)
  have HE3 := hd (show nth E 3 = 28 by rw [← nth_take E 4 3 (by omega), HEt.out]; rfl)
  go_enter Tryd.func4, Tryd.ntmps4
  go_wp2_with (first | (go_at_call 10; refine (newTr_some w1).mono ?_; rintro e w2 ⟨t, rfl, hB2⟩) | (go_at_call 9; refine (early_any 1 none 0 0 [] w ⟨rfl, Reads.none_⟩ (by omega) htb).mono ?_; rintro e w1 ⟨v1, rfl, own1, hB1⟩; rw [HE.out] at own1; obtain ⟨g1, c1, e1, hg1, hg1', hc1⟩ := own1.form (by rw [HEl.out]; omega); subst e1; have cc0 := own1.cell 0 (by rw [HEl.out]; omega); have cc1 := own1.cell 1 (by rw [HEl.out]; omega); have cc2 := own1.cell 2 (by rw [HEl.out]; omega); have cc3 := own1.cell 3 (by rw [HEl.out]; omega); rw [HE0.out] at cc0; rw [HE1.out] at cc1; rw [HE2.out] at cc2; rw [HE3.out] at cc3; have c0 : w1.cell? ⟨g1, 0, none⟩ = some (.int .u8 51) := cc0; have c1' : w1.cell? ⟨g1, 1, none⟩ = some (.int .u8 173) := cc1; have c2 : w1.cell? ⟨g1, 2, none⟩ = some (.int .u8 10) := cc2; have c3 : w1.cell? ⟨g1, 3, none⟩ = some (.int .u8 28) := cc3; clear cc0 cc1 cc2 cc3; have hL := HEl.out))
  go_ret
  exact ⟨rfl, hB1.trans (hB2.mono hB1.size)⟩
end Go.Proofs.YthigbggacgiamaaDoor
