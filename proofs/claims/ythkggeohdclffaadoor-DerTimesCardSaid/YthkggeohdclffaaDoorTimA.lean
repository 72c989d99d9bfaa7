/-
  The calendar, plain: days and dates, both ways.
-/
import Derived.KernelRfl
set_option linter.unusedVariables false
set_option linter.unusedSimpArgs false
set_option maxRecDepth 100000
namespace Go.Proofs.YthkggeohdclffaaDoor
namespace Cal
/-- Has a year 366 days? -/
def leap (y : Nat) : Bool := (y % 4 == 0 && y % 100 != 0) || y % 400 == 0
/-- How many days a month has. -/
def month (y m : Nat) : Nat := if m = 4 ∨ m = 6 ∨ m = 9 ∨ m = 11 then 30 else if m = 2 then (if leap y then 29 else 28) else 31
/-- Days ahead of a month, in its year. -/
def cum (y : Nat) : Nat → Nat
  | 0 => 0
  | m + 1 => cum y m + month y (m + 1)
/-- Days ahead of a year that begins in March, 4000 years set on. -/
def N (z : Nat) : Nat := 365 * z + z / 4 - z / 100 + z / 400
theorem N_era (z : Nat) : z / 400 * 146097 + z % 400 * 365 + z % 400 / 4 - z % 400 / 100 = N z := by unfold N; omega
/-- Days ahead of a year, from the same beginning. -/
def jan (y : Nat) : Nat := N (y + 3999) + 306
theorem leap_step (y : Nat) : N (y + 4000) = N (y + 3999) + 365 + (if leap y then 1 else 0) := by
  unfold N leap
  by_cases h4 : y % 4 = 0
  · by_cases h100 : y % 100 = 0
    · by_cases h400 : y % 400 = 0
      · simp [h4, h100, h400]; omega
      · simp [h4, h100, h400]; omega
    · have h400 : ¬ y % 400 = 0 := by omega
      simp [h4, h100, h400]; omega
  · have h100 : ¬ y % 100 = 0 := by omega
    have h400 : ¬ y % 400 = 0 := by omega
    simp [h4, h100, h400]; omega
attribute [irreducible] N
theorem jan_step (y : Nat) : jan (y + 1) = jan y + 365 + (if leap y then 1 else 0) := by
  have := leap_step y
  unfold jan
  rw [show y + 1 + 3999 = y + 4000 by omega]
  omega
/-- The program's number of a day, 2180438 set on. -/
def day (y m d : Nat) : Nat := N (if m ≤ 2 then y + 3999 else y + 4000) + (153 * (if m ≤ 2 then m + 9 else m - 3) + 2) / 5 + d - 1
theorem cum_is (y : Nat) : cum y 0 = 0 ∧ cum y 1 = 31 ∧ cum y 2 = 59 + (if leap y then 1 else 0) ∧ cum y 3 = 90 + (if leap y then 1 else 0) ∧ cum y 4 = 120 + (if leap y then 1 else 0) ∧ cum y 5 = 151 + (if leap y then 1 else 0) ∧ cum y 6 = 181 + (if leap y then 1 else 0) ∧ cum y 7 = 212 + (if leap y then 1 else 0) ∧ cum y 8 = 243 + (if leap y then 1 else 0) ∧ cum y 9 = 273 + (if leap y then 1 else 0) ∧ cum y 10 = 304 + (if leap y then 1 else 0) ∧ cum y 11 = 334 + (if leap y then 1 else 0) ∧ cum y 12 = 365 + (if leap y then 1 else 0) := by
  cases h : leap y <;> simp [cum, month, h]
set_option maxHeartbeats 4000000 in
/-- A day by its month's beginning. -/
theorem day_is (y m d : Nat) (h1 : 1 ≤ m) (h2 : m ≤ 12) (hd : 1 ≤ d) : day y m d = jan y + cum y (m - 1) + d - 1 := by
  have hl := leap_step y
  obtain ⟨c0, c1, c2, c3, c4, c5, c6, c7, c8, c9, c10, c11, c12⟩ := cum_is y
  unfold day jan
  generalize (if leap y then 1 else 0) = L at *
  have hm : m = 1 ∨ m = 2 ∨ m = 3 ∨ m = 4 ∨ m = 5 ∨ m = 6 ∨ m = 7 ∨ m = 8 ∨ m = 9 ∨ m = 10 ∨ m = 11 ∨ m = 12 := by omega
  rcases hm with rfl | rfl | rfl | rfl | rfl | rfl | rfl | rfl | rfl | rfl | rfl | rfl
  · rw [show 1 - 1 = 0 from rfl, c0]; clear c0 c1 c2 c3 c4 c5 c6 c7 c8 c9 c10 c11 c12; simp only [show (1 ≤ 2) = True by simp, if_true]; all_goals (generalize N (y + 3999) = A at *; omega)
  · rw [show 2 - 1 = 1 from rfl, c1]; clear c0 c1 c2 c3 c4 c5 c6 c7 c8 c9 c10 c11 c12; simp only [show (2 ≤ 2) = True by simp, if_true]; all_goals (generalize N (y + 3999) = A at *; omega)
  · rw [show 3 - 1 = 2 from rfl, c2]; clear c0 c1 c2 c3 c4 c5 c6 c7 c8 c9 c10 c11 c12; simp only [show (3 ≤ 2) = False by simp, if_false]; generalize N (y + 3999) = A at *; generalize N (y + 4000) = B at *; omega
  · rw [show 4 - 1 = 3 from rfl, c3]; clear c0 c1 c2 c3 c4 c5 c6 c7 c8 c9 c10 c11 c12; simp only [show (4 ≤ 2) = False by simp, if_false]; generalize N (y + 3999) = A at *; generalize N (y + 4000) = B at *; omega
  · rw [show 5 - 1 = 4 from rfl, c4]; clear c0 c1 c2 c3 c4 c5 c6 c7 c8 c9 c10 c11 c12; simp only [show (5 ≤ 2) = False by simp, if_false]; generalize N (y + 3999) = A at *; generalize N (y + 4000) = B at *; omega
  · rw [show 6 - 1 = 5 from rfl, c5]; clear c0 c1 c2 c3 c4 c5 c6 c7 c8 c9 c10 c11 c12; simp only [show (6 ≤ 2) = False by simp, if_false]; generalize N (y + 3999) = A at *; generalize N (y + 4000) = B at *; omega
  · rw [show 7 - 1 = 6 from rfl, c6]; clear c0 c1 c2 c3 c4 c5 c6 c7 c8 c9 c10 c11 c12; simp only [show (7 ≤ 2) = False by simp, if_false]; generalize N (y + 3999) = A at *; generalize N (y + 4000) = B at *; omega
  · rw [show 8 - 1 = 7 from rfl, c7]; clear c0 c1 c2 c3 c4 c5 c6 c7 c8 c9 c10 c11 c12; simp only [show (8 ≤ 2) = False by simp, if_false]; generalize N (y + 3999) = A at *; generalize N (y + 4000) = B at *; omega
  · rw [show 9 - 1 = 8 from rfl, c8]; clear c0 c1 c2 c3 c4 c5 c6 c7 c8 c9 c10 c11 c12; simp only [show (9 ≤ 2) = False by simp, if_false]; generalize N (y + 3999) = A at *; generalize N (y + 4000) = B at *; omega
  · rw [show 10 - 1 = 9 from rfl, c9]; clear c0 c1 c2 c3 c4 c5 c6 c7 c8 c9 c10 c11 c12; simp only [show (10 ≤ 2) = False by simp, if_false]; generalize N (y + 3999) = A at *; generalize N (y + 4000) = B at *; omega
  · rw [show 11 - 1 = 10 from rfl, c10]; clear c0 c1 c2 c3 c4 c5 c6 c7 c8 c9 c10 c11 c12; simp only [show (11 ≤ 2) = False by simp, if_false]; generalize N (y + 3999) = A at *; generalize N (y + 4000) = B at *; omega
  · rw [show 12 - 1 = 11 from rfl, c11]; clear c0 c1 c2 c3 c4 c5 c6 c7 c8 c9 c10 c11 c12; simp only [show (12 ≤ 2) = False by simp, if_false]; generalize N (y + 3999) = A at *; generalize N (y + 4000) = B at *; omega
/-- Is it a day? -/
def Valid (y m d : Nat) : Prop := 1 ≤ m ∧ m ≤ 12 ∧ 1 ≤ d ∧ d ≤ month y m
theorem cum_mono (y : Nat) : ∀ k m : Nat, cum y m ≤ cum y (m + k)
  | 0, m => Nat.le_refl _
  | k + 1, m => by
    have := cum_mono y k m
    show cum y m ≤ cum y (m + k) + month y (m + k + 1)
    omega
theorem cum_lt {y m m' : Nat} (h1 : 1 ≤ m) (h : m < m') : cum y (m - 1) + month y m ≤ cum y (m' - 1) := by
  have e : cum y (m - 1) + month y m = cum y m := by
    obtain ⟨k, rfl⟩ : ∃ k, m = k + 1 := ⟨m - 1, by omega⟩
    rfl
  rw [e]
  have := cum_mono y (m' - 1 - m) m
  rwa [show m + (m' - 1 - m) = m' - 1 by omega] at this
theorem jan_mono (y : Nat) : ∀ k : Nat, jan y ≤ jan (y + k)
  | 0 => Nat.le_refl _
  | k + 1 => by
    have := jan_mono y k
    have := jan_step (y + k)
    rw [show y + (k + 1) = y + k + 1 by omega]
    omega
/-- A day of a year lies within it. -/
theorem in_year {y m d : Nat} (h : Valid y m d) : jan y ≤ day y m d ∧ day y m d < jan (y + 1) := by
  obtain ⟨h1, h2, h3, h4⟩ := h
  rw [day_is y m d h1 h2 h3, jan_step]
  have hc : cum y (m - 1) + month y m ≤ cum y 12 := by
    have := @cum_lt y m 13 h1 (by omega)
    exact this
  have h12 := (cum_is y).2.2.2.2.2.2.2.2.2.2.2.2
  omega
/-- Unlike dates have unlike numbers. -/
theorem day_inj {y m d y' m' d' : Nat} (h : Valid y m d) (h' : Valid y' m' d') (he : day y m d = day y' m' d') : y = y' ∧ m = m' ∧ d = d' := by
  have a := in_year h
  have b := in_year h'
  have hy : y = y' := by
    rcases Nat.lt_trichotomy y y' with hlt | e | hlt
    · have := jan_mono (y + 1) (y' - (y + 1))
      rw [show y + 1 + (y' - (y + 1)) = y' by omega] at this
      omega
    · exact e
    · have := jan_mono (y' + 1) (y - (y' + 1))
      rw [show y' + 1 + (y - (y' + 1)) = y by omega] at this
      omega
  subst hy
  obtain ⟨h1, h2, h3, h4⟩ := h
  obtain ⟨g1, g2, g3, g4⟩ := h'
  rw [day_is y m d h1 h2 h3, day_is y m' d' g1 g2 g3] at he
  have hm : m = m' := by
    rcases Nat.lt_trichotomy m m' with hlt | e | hlt
    · have := @cum_lt y m m' h1 hlt
      omega
    · exact e
    · have := @cum_lt y m' m g1 hlt
      omega
  subst hm
  exact ⟨rfl, rfl, by omega⟩
end Cal
end Go.Proofs.YthkggeohdclffaaDoor
