/-
  The law ChainHosts, walked.
-/
import Derived.Test.YtncaplplkfihgaaGreatDoorHoI
set_option linter.unusedVariables false
set_option linter.unusedSimpArgs false
set_option maxRecDepth 100000
namespace Go.Proofs.YtncaplplkfihgaaGreatDoor
open Go.RowKit
theorem RMatches_any (p n : List UInt8) (hp : p.length ≤ 9223372036854775800) (hn : n.length ≤ 9223372036854775800) (w : World) : Calls Tryz.prog 8 #[.string (str p), .string (str n)] w fun e w' => e = .returned (.bool (Host.mat p n)) ∧ Below w.heap.size w w' := by
  have HS : ∀ l : List UInt8, l.length ≤ 9223372036854775800 → Hd (∀ w, Calls Tryz.prog 15 #[.string (str l)] w fun e w' => e = .returned (.string (str (Host.low l))) ∧ Below w.heap.size w w') := fun l hl => ⟨small_any l hl⟩
  have HL : ∀ (l : List UInt8) (k : Int), ((Host.lab l : Nat) : Int) = k → Hd (∀ w, Calls Tryz.prog 11 #[.string (str l)] w fun e w' => e = .returned (.int .i64 k) ∧ w' = w) := fun l k h => ⟨fun w => h ▸ labels_any l w⟩
  have hd2 : (p.drop 2).length ≤ 9223372036854775800 := by rw [List.length_drop]; omega
  rcases Nat.eq_zero_or_pos (Host.lab n) with h0 | h0
  · have hm : Host.mat p n = false := by unfold Host.mat; rw [h0]; rfl
    rw [hm]
    exact RMatches_none p n (HL n 0 (by omega)) w
  rcases Nat.eq_zero_or_pos (Host.lab p) with h1 | h1
  · by_cases hs : p.take 2 = [42, 46]
    · have hlen : ¬ p.length < 2 := fun h => Host.take2_short h hs
      by_cases hr : Host.lab (p.drop 2) < 2
      · have hm : Host.mat p n = false := by unfold Host.mat; rw [if_pos hs, decide_eq_false (by omega : ¬ 2 ≤ Host.lab (p.drop 2)), Bool.false_and, Bool.and_false]
        rw [hm]
        exact RMatches_few p n _ _ (by omega) (by omega : ((Host.lab (p.drop 2) : Nat) : Int) < 2) (HL n _ rfl) (HL p 0 (by omega)) (HL (p.drop 2) _ rfl) hlen hs w
      · have hm : Host.mat p n = decide (Host.low (p.drop 2) = Host.low (Host.behind n)) := by unfold Host.mat; rw [if_pos hs, decide_eq_true (by omega : 2 ≤ Host.lab (p.drop 2)), Bool.true_and, decide_eq_true h0, Bool.true_and]
        rw [hm]
        rcases Host.index_cases n 46 with hi | ⟨i, hi⟩
        · have e : decide (Host.low (p.drop 2) = Host.low (Host.behind n)) = false := by
            refine decide_eq_false fun h => ?_
            have h2 := congrArg List.length h
            rw [Host.low_len, Host.low_len, Host.behind_none hi] at h2
            have h3 : p.drop 2 = [] := List.length_eq_zero_iff.1 h2
            rw [h3, Host.lab_nil] at hr
            omega
          rw [e]
          exact RMatches_star0 p n _ _ (by omega) (by omega : ¬ ((Host.lab (p.drop 2) : Nat) : Int) < 2) (HL n _ rfl) (HL p 0 (by omega)) (HL (p.drop 2) _ rfl) hlen hs hn n.length rfl (fun j hj => Host.index_none hi _ (by unfold nth; rw [List.getD_eq_getElem?_getD, List.getElem?_eq_getElem hj]; exact List.getElem_mem hj)) (fun h => absurd h (Nat.lt_irrefl _)) (Host.low (p.drop 2)) (Host.low (n.drop (n.length + 1))) (HS _ hd2) (HS _ (by rw [List.length_drop]; omega)) w
        · obtain ⟨q1, q2, q3⟩ := Host.index_some hi
          have hat : nth n i = 46 := by
            rw [q2]
            unfold nth
            rw [List.getD_eq_getElem?_getD, List.getElem?_append_right (by rw [List.length_take]; omega), List.length_take, Nat.min_eq_left (by omega), Nat.sub_self]
            rfl
          have hno : ∀ j, j < i → nth n j ≠ 46 := fun j hj => by
            refine q3 _ ?_
            have hj2 : j < (n.take i).length := by rw [List.length_take]; omega
            have e : nth n j = (n.take i)[j] := by
              unfold nth
              rw [List.getD_eq_getElem?_getD, List.getElem?_eq_getElem (by omega : j < n.length), List.getElem_take]
              rfl
            rw [e]
            exact List.getElem_mem hj2
          rw [Host.behind_at hi, show decide (Host.low (p.drop 2) = Host.low (n.drop (i + 1))) = decide (Host.low (n.drop (i + 1)) = Host.low (p.drop 2)) from decide_eq_decide.2 eq_comm]
          exact RMatches_star p n _ _ (by omega) (by omega : ¬ ((Host.lab (p.drop 2) : Nat) : Int) < 2) (HL n _ rfl) (HL p 0 (by omega)) (HL (p.drop 2) _ rfl) hlen hs hn i q1 hno (fun _ => hat) (Host.low (p.drop 2)) (Host.low (n.drop (i + 1))) (HS _ hd2) (HS _ (by rw [List.length_drop]; omega)) w
    · have hm : Host.mat p n = false := by unfold Host.mat; rw [if_neg hs, h1]; simp
      rw [hm]
      by_cases hlen : p.length < 2
      · exact RMatches_short p n _ (by omega) (HL n _ rfl) (HL p 0 (by omega)) hlen w
      · exact RMatches_other p n _ (by omega) (HL n _ rfl) (HL p 0 (by omega)) hlen hs w
  · have hs : ¬ p.take 2 = [42, 46] := fun h => by rw [Host.star_bad h] at h1; omega
    have hm : Host.mat p n = ((str (Host.low p)).toList == (str (Host.low n)).toList) := by
      rw [Host.toList_beq]
      unfold Host.mat
      rw [if_neg hs, decide_eq_true h0, decide_eq_true h1, Bool.true_and, Bool.true_and]
    rw [hm]
    exact RMatches_plain p n _ _ (by omega : (0 : Int) < ((Host.lab n : Nat) : Int)) (by omega : (0 : Int) < ((Host.lab p : Nat) : Int)) (HL n _ rfl) (HL p _ rfl) _ _ (HS p hp) (HS n hn) w
theorem Check_nil (role : Int) (w : World) : Calls Tryz.prog 9 #[.slice none 0 0, .slice none 0 0, .int .i64 0, .string ⟨#[]⟩, .int .i64 role] w fun e w' => e = .returned (.tuple #[.int .i64 161, .int .i64 0]) ∧ Below w.heap.size w w' := by
  go_enter Tryz.func9, Tryz.ntmps9
  go_wp2
  go_ret2
  exact ⟨rfl, (((Below.refl _ w).alloc (Nat.le_refl _) _).alloc (by simp only [Host.asize]; omega) _).alloc (by simp only [Host.asize]; omega) _⟩
theorem head16_any (w : World) : Calls Tryz.prog 4 #[] w fun e w' => e = .returned (.bool true) ∧ Below w.heap.size w w' := by
  have H1 : Hd (∀ w, Calls Tryz.prog 7 #[.string ⟨#[42, 46, 97, 46, 98]⟩, .string ⟨#[88, 46, 97, 46, 66]⟩] w fun e w' => e = .returned (.bool true) ∧ Below w.heap.size w w') := ⟨fun w => by
    have h := Matches_any [42, 46, 97, 46, 98] [88, 46, 97, 46, 66] (by decide) (by decide) w
    rw [show Host.mat [42, 46, 97, 46, 98] [88, 46, 97, 46, 66] = true by decide] at h
    exact h⟩
  have H2 : Hd (∀ w, Calls Tryz.prog 7 #[.string ⟨#[42, 46, 97, 46, 98]⟩, .string ⟨#[97, 46, 98]⟩] w fun e w' => e = .returned (.bool false) ∧ Below w.heap.size w w') := ⟨fun w => by
    have h := Matches_any [42, 46, 97, 46, 98] [97, 46, 98] (by decide) (by decide) w
    rw [show Host.mat [42, 46, 97, 46, 98] [97, 46, 98] = false by decide] at h
    exact h⟩
  go_enter Tryz.func4, Tryz.ntmps4
  go_wp2_with (first
    | ((with_reducible refine (H2.out _).mono ?_); rintro e w3 ⟨rfl, hB3⟩)
    | ((with_reducible refine (H1.out _).mono ?_); rintro e w2 ⟨rfl, hB2⟩)
    | ((with_reducible refine (Check_nil _ _).mono ?_); rintro e w1 ⟨rfl, hB1⟩))
  go_ret
  exact ⟨rfl, Host.size2 hB1 (Host.size2 hB2 hB3)⟩
set_option maxHeartbeats 4000000 in
set_option maxRecDepth 100000 in
theorem hosts_any (p n : List UInt8) (hp : p.length ≤ 9223372036854775800) (hn : n.length ≤ 9223372036854775800) (w : World) : Calls Tryz.prog 3 #[.string (str p), .string (str n)] w fun e w' => e = .returned (.bool true) ∧ Below w.heap.size w w' := by
  obtain ⟨a, Ha⟩ : ∃ x, Hd (decide (0 < Host.lab n) = x) := ⟨_, ⟨rfl⟩⟩
  obtain ⟨b, Hb⟩ : ∃ x, Hd (decide (0 < Host.lab p) = x) := ⟨_, ⟨rfl⟩⟩
  obtain ⟨m, Hm⟩ : ∃ x, Hd (Host.mat p n = x) := ⟨_, ⟨rfl⟩⟩
  have C1 := hd (fun w => Ha.out ▸ Host_any n hn w)
  have C2 := hd (fun w => Ha.out ▸ Host_ref n w)
  have C3 := hd (fun w => Hb.out ▸ Host_any p hp w)
  have C4 := hd (fun w => Hb.out ▸ Host_ref p w)
  have C5 := hd (fun w => Hm.out ▸ Matches_any p n hp hn w)
  have C6 := hd (fun w => Hm.out ▸ RMatches_any p n hp hn w)
  clear Ha Hb Hm hp hn
  go_enter Tryz.func3, Tryz.ntmps3
  go_wp2_with (first
    | ((with_reducible refine (C6.out _).mono ?_); rintro e w7 ⟨rfl, hB7⟩)
    | ((with_reducible refine (C5.out _).mono ?_); rintro e w6 ⟨rfl, hB6⟩)
    | ((with_reducible refine (C4.out _).mono ?_); rintro e w5 ⟨rfl, rfl⟩)
    | ((with_reducible refine (C3.out _).mono ?_); rintro e w4 ⟨rfl, hB4⟩)
    | ((with_reducible refine (C2.out _).mono ?_); rintro e w3 ⟨rfl, rfl⟩)
    | ((with_reducible refine (C1.out _).mono ?_); rintro e w2 ⟨rfl, hB2⟩)
    | ((with_reducible refine (head16_any _).mono ?_); rintro e w1 ⟨rfl, hB1⟩))
  go_ret
  exact ⟨by simp, Host.size2 hB1 (Host.size2 hB2 (Host.size2 hB4 (Host.size2 hB6 hB7)))⟩
end Go.Proofs.YtncaplplkfihgaaGreatDoor
