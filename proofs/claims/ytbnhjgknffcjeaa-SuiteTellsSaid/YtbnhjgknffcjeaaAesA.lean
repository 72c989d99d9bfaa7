/-
  The walks of AES's small functions.
-/
import Derived.Test.YtbnhjgknffcjeaaAesSpec
import Derived.Test.YtbnhjgknffcjeaaProg
import Derived.WalkSpells
import Derived.WalkLawsBesides
import Derived.StillTailTactics
import Derived.Deep.QuietTactic
import Derived.BigQuiet
set_option linter.unusedVariables false
set_option linter.unusedSimpArgs false
namespace Go.Proofs.Ytbnhjgknffcjeaa
open Go.RowKit
set_option maxHeartbeats 400000 in
set_option maxRecDepth 100000 in
theorem twice_any (a : UInt8) (w : World) :
    Calls Try.prog 80 #[.int .u8 (n8 a)] w fun e w' => e = .returned (.int .u8 (n8 (Aes.twice a))) ∧ w = w' := by
  go_enter Try.func80, Try.ntmps80
  go_wp2
  go_ret
  exact ⟨rfl, rfl⟩
theorem dbl_pos {a : UInt8} (h : a >>> 7 = 1) : Aes.dbl a = a <<< 1 ^^^ 0x1b := by simp [Aes.dbl, h]
theorem dbl_neg {a : UInt8} (h : ¬ a >>> 7 = 1) : Aes.dbl a = a <<< 1 := by simp [Aes.dbl, h]
set_option maxHeartbeats 400000 in
set_option maxRecDepth 100000 in
theorem double_any (a : UInt8) (w : World) :
    Calls Try.prog 64 #[.int .u8 (n8 a)] w fun e w' => e = .returned (.int .u8 (n8 (Aes.dbl a))) ∧ w = w' := by
  by_cases h : a >>> 7 = 1
  · have hb : (a >>> 7 == 1) = true := by simp [h]
    have H := hd h
    clear h
    go_enter Try.func64, Try.ntmps64
    go_wp2
    go_ret
    exact ⟨by rw [dbl_pos H.out]; rfl, rfl⟩
  · have hb : (a >>> 7 == 1) = false := by simp [h]
    have H := hd h
    clear h
    go_enter Try.func64, Try.ntmps64
    go_wp2
    go_ret
    exact ⟨by rw [dbl_neg H.out]; rfl, rfl⟩
set_option maxHeartbeats 400000 in
set_option maxRecDepth 100000 in
theorem turned_any (a : UInt8) (z : Int) (h0 : 0 ≤ z) (h : z ≤ 8) (w : World) :
    Calls Try.prog 94 #[.int .u8 (n8 a), .int .i64 z] w fun e w' => e = .returned (.int .u8 (n8 (Aes.rotl a z.toNat))) ∧ ∃ m, w' = w.drewN m := by
  obtain ⟨n, rfl⟩ := Int.eq_ofNat_of_zero_le h0
  have hn : n ≤ 8 := by omega
  have e1 : ((8 : Int) - (n : Int)) = ((8 - n : Nat) : Int) := by omega
  go_enter Try.func94, Try.ntmps94
  go_wp2
  go_quiet (fail)
  go_wp2
  clear e1
  go_ret
  exact ⟨rfl, _, rfl⟩
set_option maxHeartbeats 400000 in
set_option maxRecDepth 100000 in
theorem left_any (a : UInt8) (z : Int) (h0 : 0 ≤ z) (h : z ≤ 8) (w : World) :
    Calls Try.prog 76 #[.int .u8 (n8 a), .int .i64 z] w fun e w' => e = .returned (.int .u8 (n8 (Aes.rotl a z.toNat))) ∧ ∃ m, w' = w.drewN m := by
  obtain ⟨n, rfl⟩ := Int.eq_ofNat_of_zero_le h0
  have hn : n ≤ 8 := by omega
  have e1 : ((8 : Int) - (n : Int)) = ((8 - n : Nat) : Int) := by omega
  go_enter Try.func76, Try.ntmps76
  go_wp2
  go_quiet (fail)
  go_wp2
  clear e1
  go_ret
  exact ⟨rfl, _, rfl⟩
set_option maxHeartbeats 400000 in
set_option maxRecDepth 100000 in
theorem times_any (a b : UInt8) (w : World) :
    Calls Try.prog 47 #[.int .u8 (n8 a), .int .u8 (n8 b)] w fun e w' => e = .returned (.int .u8 (n8 (Aes.times a b))) ∧ w = w' := by
  go_enter Try.func47, Try.ntmps47
  go_wp2
  go_loop [0, 5, 6] (fun x o i => ∃ k : Nat, k ≤ 8 ∧ i = .int .i64 k ∧ o = .int .u8 (n8 (iter (Aes.timesStep b) k (0, a)).1) ∧ x = .int .u8 (n8 (iter (Aes.timesStep b) k (0, a)).2)) (fun _ _ i => 8 - (intOf i).toNat)
  case atStart => exact ⟨0, by omega, rfl, rfl, rfl⟩
  case round =>
    obtain ⟨k, hk, rfl, rfl, rfl⟩ := hrel
    by_cases hlt : k < 8
    · go_wp2
      all_goals
        rename_i h1 h2
        simp only [beq_iff_eq, beq_eq_false_iff_ne, ne_eq] at h1 h2
        go_round
        case rel => exact ⟨k + 1, by omega, by go_num, by simp [iter, Aes.timesStep, h1, h2], by simp [iter, Aes.timesStep, h1, h2]⟩
        case measure => simp [intOf]; omega
    · have e8 : k = 8 := by omega
      subst e8
      go_wp2
      go_ret
      exact ⟨by rw [Aes.times_eq]; rfl, rfl⟩
theorem refC_yes (b c : UInt8) (k : Nat) (h : k < 7) : Aes.refC b k c = Aes.times (Aes.times c c) b := by simp [Aes.refC, h]
theorem bit254 (k : Nat) (h : k < 8) : (bits .and .i64 (254 / 2 ^ (7 - k)) 1 == 1) = decide (k < 7) := by
  have : ∀ k < 8, (bits .and .i64 (254 / 2 ^ (7 - k)) 1 == 1) = decide (k < 7) := by decide
  exact this k h
set_option maxHeartbeats 1000000 in
set_option maxRecDepth 100000 in
theorem refBox_any (b : UInt8) (w : World) :
    Calls Try.prog 63 #[.int .u8 (n8 b)] w fun e w' => e = .returned (.int .u8 (n8 (Aes.refBox b))) ∧ ∃ m, w' = w.drewN m := by
  go_enter Try.func63, Try.ntmps63
  go_wp2
  go_loop [3, 4] (fun c i => ∃ k : Nat, k ≤ 8 ∧ i = .int .i64 (7 - (k : Int)) ∧ c = .int .u8 (n8 (iter (Aes.refC b) k 1))) (fun _ i => (intOf i + 1).toNat)
  case atStart => exact ⟨0, by omega, rfl, rfl⟩
  case round =>
    obtain ⟨k, hk, rfl, rfl⟩ := hrel
    by_cases hlt : k < 8
    · go_wp2_with (go_at_call 47; refine (times_any _ _ _).mono ?_; rintro e w' ⟨rfl, rfl⟩)
      · rename_i h1
        rw [bit254 k hlt, decide_eq_true_eq] at h1
        go_round
        case rel => exact ⟨k + 1, by omega, by rw [show (7 - (k : Int) - 1) = 7 - ((k + 1 : Nat) : Int) by omega], by rw [iter, refC_yes _ _ _ h1]⟩
        case measure => simp [intOf]; omega
      · rename_i h1
        rw [bit254 k hlt, decide_eq_false_iff_not] at h1
        have e7 : k = 7 := by omega
        subst e7
        go_round
        case rel => exact ⟨8, by omega, rfl, rfl⟩
        case measure => simp [intOf]
    · have e8 : k = 8 := by omega
      subst e8
      go_wp2_with (go_at_call 76; refine (left_any _ _ (by omega) (by omega) _).mono ?_; rintro e w' ⟨rfl, m, rfl⟩)
      go_ret
      exact ⟨by rw [Aes.refBox_eq]; rfl, _, rfl⟩
end Go.Proofs.Ytbnhjgknffcjeaa
