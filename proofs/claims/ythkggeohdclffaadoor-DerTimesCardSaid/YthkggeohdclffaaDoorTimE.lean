/-
  The reference's calendar, walked.
-/
import Derived.Test.YthkggeohdclffaaDoorTimC
set_option linter.unusedVariables false
set_option linter.unusedSimpArgs false
set_option maxRecDepth 100000
namespace Go.Proofs.YthkggeohdclffaaDoor
open Go.RowKit
theorem leap_any (y : Nat) (hy : y ≤ 20000) (w : World) : Calls Tryd.prog 53 #[.int .i64 (y : Int)] w fun e w' => e = .returned (.bool (Cal.leap y)) ∧ w' = w := by
  by_cases h4 : y % 4 = 0
  · by_cases h100 : y % 100 = 0
    · by_cases h400 : y % 400 = 0
      · have e : Cal.leap y = true := by simp [Cal.leap, h400]
        rw [e]
        have t1 : (y : Int) % 4 = 0 := by omega
        have t2 : (y : Int) % 100 = 0 := by omega
        have t3 : (y : Int) % 400 = 0 := by omega
        clear h4 h100 h400
        go_enter Tryd.func53, Tryd.ntmps53
        go_wp2
        go_ret
        exact ⟨rfl, rfl⟩
      · have e : Cal.leap y = false := by simp [Cal.leap, h100, h400]
        rw [e]
        have t1 : (y : Int) % 4 = 0 := by omega
        have t2 : (y : Int) % 100 = 0 := by omega
        have t3 : ((y : Int) % 400 == 0) = false := by simp; omega
        clear h4 h100 h400
        go_enter Tryd.func53, Tryd.ntmps53
        go_wp2
        go_ret
        exact ⟨rfl, rfl⟩
    · have e : Cal.leap y = true := by simp [Cal.leap, h4, h100]
      rw [e]
      have t1 : (y : Int) % 4 = 0 := by omega
      have t2 : ((y : Int) % 100 != 0) = true := by simp; omega
      clear h4 h100
      go_enter Tryd.func53, Tryd.ntmps53
      go_wp2
      go_ret
      exact ⟨rfl, rfl⟩
  · have e : Cal.leap y = false := by simp [Cal.leap, h4]; omega
    rw [e]
    have t1 : ((y : Int) % 4 == 0) = false := by simp; omega
    have t3 : ((y : Int) % 400 == 0) = false := by simp; omega
    clear h4
    go_enter Tryd.func53, Tryd.ntmps53
    go_wp2
    go_ret
    exact ⟨rfl, rfl⟩
theorem month_any (y m : Nat) (hy : y ≤ 20000) (w : World) : Calls Tryd.prog 29 #[.int .i64 (y : Int), .int .i64 (m : Int)] w fun e w' => e = .returned (.int .i64 ((Cal.month y m : Nat) : Int)) ∧ w' = w := by
  have HL := hd (leap_any y hy w)
  by_cases h : m = 4 ∨ m = 6 ∨ m = 9 ∨ m = 11
  · have e : Cal.month y m = 30 := by unfold Cal.month; rw [if_pos h]
    rw [e]
    rcases h with rfl | rfl | rfl | rfl <;> (go_enter Tryd.func29, Tryd.ntmps29; go_wp2; go_ret; exact ⟨rfl, rfl⟩)
  · by_cases h2 : m = 2
    · subst h2
      have e : Cal.month y 2 = if Cal.leap y then 29 else 28 := rfl
      rw [e]
      cases hl : Cal.leap y
      · rw [hl] at HL
        go_enter Tryd.func29, Tryd.ntmps29
        go_wp2_with (first | (go_at_call 53; refine HL.out.mono ?_; rintro e w5 ⟨rfl, e5⟩; rw [e5]; clear e5 w5))
        go_ret
        exact ⟨rfl, rfl⟩
      · rw [hl] at HL
        go_enter Tryd.func29, Tryd.ntmps29
        go_wp2_with (first | (go_at_call 53; refine HL.out.mono ?_; rintro e w5 ⟨rfl, e5⟩; rw [e5]; clear e5 w5))
        go_ret
        exact ⟨rfl, rfl⟩
    · have e : Cal.month y m = 31 := by unfold Cal.month; rw [if_neg h, if_neg h2]
      rw [e]
      have t1 : ((m : Int) == 4) = false := by simp; omega
      have t2 : ((m : Int) == 6) = false := by simp; omega
      have t3 : ((m : Int) == 9) = false := by simp; omega
      have t4 : ((m : Int) == 11) = false := by simp; omega
      have t5 : ((m : Int) == 2) = false := by simp; omega
      clear h h2
      go_enter Tryd.func29, Tryd.ntmps29
      go_wp2
      go_ret
      exact ⟨rfl, rfl⟩
namespace Cal
theorem jan_1970 : jan 1970 = 2180438 := by unfold jan N; rfl
theorem jan_le (y : Nat) (h : y ≤ 20000) : jan y ≤ 9000000 := by unfold jan N; omega
end Cal
set_option maxHeartbeats 4000000 in
set_option maxRecDepth 100000 in
theorem days_any (y : Nat) (hy : y ≤ 20000) (w : World) : Calls Tryd.prog 30 #[.int .i64 (y : Int)] w fun e w' => e = .returned (.int .i64 ((Cal.jan y : Nat) - 2180438)) ∧ w' = w := by
  have HL := hd (fun (x : Nat) (hx : x ≤ 20000) => leap_any x hx w)
  have HJ := hd Cal.jan_step
  have HJL := hd Cal.jan_le
  obtain ⟨J, Hjan⟩ : ∃ f : Nat → Nat, Hd (Cal.jan = f) := ⟨_, ⟨rfl⟩⟩
  have HJ0 := hd Cal.jan_1970
  rw [Hjan.out] at HJ HJL HJ0 ⊢
  by_cases h : 1970 ≤ y
  · go_enter Tryd.func30, Tryd.ntmps30
    go_wp2
    go_loopw [3, 4] (fun s3 s4 wr => ∃ x : Nat, 1970 ≤ x ∧ x ≤ y ∧ s4 = .int .i64 (x : Int) ∧ s3 = .int .i64 ((J x : Int) - 2180438) ∧ wr = w) (fun _ s4 _ => y - (intOf s4).toNat)
    case atStart => exact ⟨1970, Nat.le_refl _, h, rfl, by rw [HJ0.out]; rfl, rfl⟩
    case round =>
      obtain ⟨x, hx1, hx2, rfl, rfl, rfl⟩ := hrel
      have hxl := hd (HL.out x (by omega))
      have hst := HJ.out x
      have hjl := HJL.out x (by omega)
      obtain ⟨jx, Hjx⟩ : ∃ y, Hd (J x = y) := ⟨_, ⟨rfl⟩⟩
      rw [Hjx.out] at hst hjl ⊢
      have Hst := hd hst
      have hji : (jx : Int) ≤ 9000000 := by omega
      clear hst hjl
      by_cases hlt : x < y
      · have t1 : (x : Int) < (y : Int) := by omega
        cases hl : Cal.leap x
        · rw [hl] at hxl Hst
          go_wp2_with (first | (go_at_call 53; refine hxl.out.mono ?_; rintro e w5 ⟨rfl, e5⟩; rw [e5]; clear e5 w5))
          go_roundw
          case rel => exact ⟨x + 1, by omega, by omega, by go_num, by rw [Hst.out]; simp; omega, trivial⟩
          case measure => simp [intOf]; omega
        · rw [hl] at hxl Hst
          go_wp2_with (first | (go_at_call 53; refine hxl.out.mono ?_; rintro e w5 ⟨rfl, e5⟩; rw [e5]; clear e5 w5))
          go_roundw
          case rel => exact ⟨x + 1, by omega, by omega, by go_num, by rw [Hst.out]; simp; omega, trivial⟩
          case measure => simp [intOf]; omega
      · obtain rfl : x = y := by omega
        have t1 : ¬ (x : Int) < (x : Int) := by omega
        have t2 : ¬ (x : Int) < 1970 := by omega
        go_wp2
        go_loopw [3, 5] (fun s3 s5 wr2 => s5 = .int .i64 (x : Int) ∧ s3 = .int .i64 ((jx : Int) - 2180438) ∧ wr2 = wr) (fun _ _ _ => 0)
        case atStart => exact ⟨rfl, rfl, rfl⟩
        case round =>
          obtain ⟨rfl, rfl, rfl⟩ := hrel
          go_wp2
          go_ret
          exact ⟨by rw [Hjx.out]; rfl, rfl⟩
  · go_enter Tryd.func30, Tryd.ntmps30
    have t0 : ¬ (1970 : Int) < (y : Int) := by omega
    go_wp2
    go_loopw [3, 4] (fun s3 s4 wr => s4 = .int .i64 1970 ∧ s3 = .int .i64 0 ∧ wr = w) (fun _ _ _ => 0)
    case atStart => exact ⟨rfl, rfl, rfl⟩
    case round =>
      obtain ⟨rfl, rfl, rfl⟩ := hrel
      go_wp2
      obtain ⟨jy, Hjy⟩ : ∃ z, Hd (J y = z) := ⟨_, ⟨rfl⟩⟩
      have hjyl := HJL.out y (by omega)
      rw [Hjy.out] at hjyl
      have hjyi : (jy : Int) ≤ 9000000 := by omega
      clear hjyl
      go_loopw [3, 5] (fun s3 s5 wr2 => ∃ x : Nat, y ≤ x ∧ x ≤ 1970 ∧ s5 = .int .i64 (x : Int) ∧ s3 = .int .i64 ((jy : Int) - (J x : Int)) ∧ wr2 = wr) (fun _ s5 _ => 1970 - (intOf s5).toNat)
      case atStart => exact ⟨y, Nat.le_refl _, by omega, rfl, by rw [Hjy.out]; simp, rfl⟩
      case round =>
        obtain ⟨x, hx1, hx2, rfl, rfl, rfl⟩ := hrel
        have hxl := hd (HL.out x (by omega))
        have hst := HJ.out x
        have hjl := HJL.out x (by omega)
        obtain ⟨jx, Hjx⟩ : ∃ y, Hd (J x = y) := ⟨_, ⟨rfl⟩⟩
        rw [Hjx.out] at hst hjl ⊢
        have Hst := hd hst
        have hji : (jx : Int) ≤ 9000000 := by omega
        clear hst hjl
        by_cases hlt : x < 1970
        · have t1 : (x : Int) < 1970 := by omega
          cases hl : Cal.leap x
          · rw [hl] at hxl Hst
            go_wp2_with (first | (go_at_call 53; refine hxl.out.mono ?_; rintro e w5 ⟨rfl, e5⟩; rw [e5]; clear e5 w5))
            go_roundw
            case rel => exact ⟨x + 1, by omega, by omega, by go_num, by rw [Hst.out]; simp; omega, trivial⟩
            case measure => simp [intOf]; omega
          · rw [hl] at hxl Hst
            go_wp2_with (first | (go_at_call 53; refine hxl.out.mono ?_; rintro e w5 ⟨rfl, e5⟩; rw [e5]; clear e5 w5))
            go_roundw
            case rel => exact ⟨x + 1, by omega, by omega, by go_num, by rw [Hst.out]; simp; omega, trivial⟩
            case measure => simp [intOf]; omega
        · obtain rfl : x = 1970 := by omega
          have hj : jx = 2180438 := by rw [← Hjx.out]; exact HJ0.out
          subst hj
          go_wp2
          go_ret
          exact ⟨by rw [Hjy.out]; rfl, rfl⟩
end Go.Proofs.YthkggeohdclffaaDoor
