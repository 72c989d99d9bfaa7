/-
  The program's calendar, walked.
-/
import Derived.Test.YthkggeohdclffaaDoorTimB
import Derived.Test.YthkggeohdclffaaDoorDerE
set_option linter.unusedVariables false
set_option linter.unusedSimpArgs false
set_option maxRecDepth 100000
namespace Go.Proofs.YthkggeohdclffaaDoor
open Go.RowKit
theorem Cal.pos (z : Nat) (h : 1 ≤ z) : 365 ≤ Cal.N z := by
  have h1 := Cal.N_mono 1 (z - 1)
  rw [show 1 + (z - 1) = z by omega] at h1
  have h2 : Cal.N 1 = 365 := by unfold Cal.N; rfl
  omega
set_option maxHeartbeats 4000000 in
set_option maxRecDepth 100000 in
theorem dayOf_any (y m d : Nat) (hy : y ≤ 20000) (hm : m ≤ 99) (hd : d ≤ 99) (w : World) :
    Calls Tryd.prog 27 #[.int .i64 (y : Int), .int .i64 (m : Int), .int .i64 (d : Int)] w fun e w' => e = .returned (.int .i64 ((Cal.day y m d : Nat) - 2180438)) ∧ w' = w := by
  by_cases h : m ≤ 2
  · have t1 : (m : Int) ≤ 2 := by omega
    go_enter Tryd.func27, Tryd.ntmps27
    go_wp2
    go_ret
    refine ⟨?_, rfl⟩
    have hN := Cal.N_era (y + 3999)
    have hp := Cal.pos (y + 3999) (by omega)
    unfold Cal.day
    rw [if_pos h, if_pos h]
    refine congrArg (fun v => Ending.returned (Value.int .i64 v)) ?_
    have hE : ((y : Int) - 1 + 4000) / 400 = (((y + 3999) / 400 : Nat) : Int) := by omega
    have hO : (y : Int) - 1 + 4000 - (((y + 3999) / 400 : Nat) : Int) * 400 = (((y + 3999) % 400 : Nat) : Int) := by omega
    rw [hE, hO]
    generalize Cal.N (y + 3999) = A at *
    generalize (y + 3999) / 400 = E at *
    generalize (y + 3999) % 400 = O at *
    omega
  · have t1 : ¬ (m : Int) ≤ 2 := by omega
    go_enter Tryd.func27, Tryd.ntmps27
    go_wp2
    go_ret
    refine ⟨?_, rfl⟩
    have hN := Cal.N_era (y + 4000)
    have hp := Cal.pos (y + 4000) (by omega)
    unfold Cal.day
    rw [if_neg h, if_neg h]
    refine congrArg (fun v => Ending.returned (Value.int .i64 v)) ?_
    have hE : ((y : Int) + 4000) / 400 = (((y + 4000) / 400 : Nat) : Int) := by omega
    have hO : (y : Int) + 4000 - (((y + 4000) / 400 : Nat) : Int) * 400 = (((y + 4000) % 400 : Nat) : Int) := by omega
    rw [hE, hO]
    generalize Cal.N (y + 4000) = A at *
    generalize (y + 4000) / 400 = E at *
    generalize (y + 4000) % 400 = O at *
    omega
/-- A date's year as the program tells it. -/
def Cal.yInt (n : Nat) : Int := (Cal.zOf n : Int) - 4000 + (if Cal.mm (Cal.rOf n) ≤ 9 then 0 else 1)
set_option maxHeartbeats 4000000 in
set_option maxRecDepth 100000 in
theorem dated_any (n : Nat) (hn : (n : Int) ≤ 100000000) (w : World) :
    Calls Tryd.prog 28 #[.int .i64 ((n : Int) - 2180438)] w fun e w' => e = .returned (.tuple #[.int .i64 (Cal.yInt n), .int .i64 ((Cal.mOf n : Nat) : Int), .int .i64 ((Cal.dOf n : Nat) : Int)]) ∧ w' = w := by
  have s0 : ((n : Int) - 2180438 + 2180438) = (n : Int) := by omega
  obtain ⟨E, HE⟩ : ∃ y, Hd (n / 146097 = y) := ⟨_, ⟨rfl⟩⟩
  obtain ⟨O, HO⟩ : ∃ y, Hd (n % 146097 = y) := ⟨_, ⟨rfl⟩⟩
  obtain ⟨Y, HY⟩ : ∃ y, Hd (Cal.yo O = y) := ⟨_, ⟨rfl⟩⟩
  obtain ⟨R, HR⟩ : ∃ y, Hd (Cal.doy O = y) := ⟨_, ⟨rfl⟩⟩
  obtain ⟨M, HM⟩ : ∃ y, Hd (Cal.mm R = y) := ⟨_, ⟨rfl⟩⟩
  have e1 : (n : Int) / 146097 = (E : Int) := by have := HE.out; omega
  have e2 : (n : Int) - (E : Int) * 146097 = (O : Int) := by have := HE.out; have := HO.out; omega
  have e3 : ((O : Int) - (O : Int) / 1460 + (O : Int) / 36524 - (O : Int) / 146096) / 365 = (Y : Int) := by have h := HY.out; unfold Cal.yo at h; omega
  obtain ⟨p1, p2, p3⟩ := Cal.parts n
  have hg := Cal.good_at O (by have := HO.out; omega)
  unfold Cal.good at hg
  simp only [Bool.and_eq_true, decide_eq_true_eq, Bool.or_eq_true, bne_iff_ne] at hg
  obtain ⟨⟨⟨h1, h2⟩, h3⟩, _⟩ := hg
  have hdoy : Cal.doy O = O - (365 * Cal.yo O + Cal.yo O / 4 - Cal.yo O / 100) := rfl
  rw [HY.out] at h1 h3 hdoy
  rw [HR.out] at h2 hdoy
  have e4 : (O : Int) - (365 * (Y : Int) + (Y : Int) / 4 - (Y : Int) / 100) = (R : Int) := by omega
  obtain ⟨g1, g2, _⟩ := Cal.okm_at R h2
  rw [HM.out] at g1 g2
  have e5 : (5 * (R : Int) + 2) / 153 = (M : Int) := by have h := HM.out; unfold Cal.mm at h; omega
  have hD : Cal.dd R = R - (153 * M + 2) / 5 + 1 := by unfold Cal.dd; rw [HM.out]
  have HF := hd (show Cal.zOf n = Y + E * 400 ∧ Cal.rOf n = R by unfold Cal.zOf Cal.rOf; rw [HO.out, HE.out, HY.out, HR.out]; exact ⟨rfl, rfl⟩)
  have He := hd (show E ≤ 700 by have := HE.out; omega)
  have HG := hd g2
  have HDD := hd hD
  have Ho := hd (show O < 146097 by have := HO.out; omega)
  have hY : Y ≤ 399 := h3
  have hE700 : E ≤ 700 := He.out
  clear p1 p2 p3 h1 hdoy g2 hD h3
  go_enter Tryd.func28, Tryd.ntmps28
  go_upto_region 2 with fail
  try rw [s0]
  go_upto_region 3 with fail
  try rw [e1]
  go_upto_region 4 with fail
  try rw [e2]
  have hO : O < 146097 := Ho.out
  go_upto_region 5 with fail
  try rw [e3]
  go_upto_region 6 with fail
  try rw [e4]
  go_upto_region 7 with fail
  try rw [e5]
  go_upto_region 8 with fail
  have e6 : (R : Int) - (153 * (M : Int) + 2) / 5 + 1 = ((Cal.dOf n : Nat) : Int) := by
    unfold Cal.dOf
    rw [HF.out.2]
    have h1 := HDD.out
    have h2 := HG.out
    omega
  try rw [e6]
  by_cases h9 : M ≤ 9
  · have t1 : ¬ (12 : Int) < (M : Int) + 3 := by omega
    go_wp2
    go_ret3
    refine ⟨?_, rfl⟩
    unfold Cal.yInt Cal.mOf
    rw [HF.out.2, HF.out.1, HM.out, if_pos h9, if_pos h9]
    have q1 : (Y : Int) + ((E : Int) * 400 - 4000) = ((Y + E * 400 : Nat) : Int) - 4000 + 0 := by omega
    have q2 : (M : Int) + 3 = ((M + 3 : Nat) : Int) := by omega
    show Ending.returned (.tuple #[.int .i64 ((Y : Int) + ((E : Int) * 400 - 4000)), .int .i64 ((M : Int) + 3), _]) = _
    rw [q1, q2]
    rfl
  · have t1 : (12 : Int) < (M : Int) + 3 := by omega
    go_wp2
    go_ret3
    refine ⟨?_, rfl⟩
    unfold Cal.yInt Cal.mOf
    rw [HF.out.2, HF.out.1, HM.out, if_neg h9, if_neg h9]
    have q1 : (Y : Int) + ((E : Int) * 400 - 4000) + 1 = ((Y + E * 400 : Nat) : Int) - 4000 + 1 := by omega
    have q2 : (M : Int) + 3 - 12 = ((M - 9 : Nat) : Int) := by omega
    show Ending.returned (.tuple #[.int .i64 ((Y : Int) + ((E : Int) * 400 - 4000) + 1), .int .i64 ((M : Int) + 3 - 12), _]) = _
    rw [q1, q2]
    rfl
end Go.Proofs.YthkggeohdclffaaDoor
