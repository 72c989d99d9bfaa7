/-
  The calendar, plain: a day's date, and a date's day.
-/
import Derived.Test.YthkggeohdclffaaDoorTimG
set_option linter.unusedVariables false
set_option linter.unusedSimpArgs false
set_option maxRecDepth 100000
namespace Go.Proofs.YthkggeohdclffaaDoor
namespace Cal
/-- A day's year, that begins in March, 4000 set on; the day within it; its month and day. -/
def zOf (n : Nat) : Nat := yo (n % 146097) + n / 146097 * 400
def rOf (n : Nat) : Nat := doy (n % 146097)
def mm (r : Nat) : Nat := (5 * r + 2) / 153
def dd (r : Nat) : Nat := r - (153 * mm r + 2) / 5 + 1
def okm (r : Nat) : Bool := decide (mm r ≤ 11) && decide ((153 * mm r + 2) / 5 ≤ r) && decide (dd r ≤ (if mm r = 1 ∨ mm r = 3 ∨ mm r = 6 ∨ mm r = 8 then 30 else if mm r = 11 then (if r = 365 then 29 else 28) else 31))
theorem okm_all : (List.range 366).all okm = true := by kernel_rfl
theorem okm_at (r : Nat) (h : r ≤ 365) : mm r ≤ 11 ∧ (153 * mm r + 2) / 5 ≤ r ∧ dd r ≤ (if mm r = 1 ∨ mm r = 3 ∨ mm r = 6 ∨ mm r = 8 then 30 else if mm r = 11 then (if r = 365 then 29 else 28) else 31) := by
  have := List.all_eq_true.1 okm_all r (List.mem_range.2 (by omega))
  unfold okm at this
  simp only [Bool.and_eq_true, decide_eq_true_eq] at this
  exact ⟨this.1.1, this.1.2, this.2⟩
theorem leap_mod (y : Nat) (k : Nat) : leap (y + k * 400) = leap y := by
  unfold leap
  have h1 : (y + k * 400) % 4 = y % 4 := by omega
  have h2 : (y + k * 400) % 100 = y % 100 := by omega
  have h3 : (y + k * 400) % 400 = y % 400 := by omega
  rw [h1, h2, h3]
/-- A number, taken apart. -/
theorem parts (n : Nat) : n = N (zOf n) + rOf n ∧ rOf n ≤ 365 ∧ (rOf n = 365 → leap (zOf n + 1) = true) := by
  have hg := good_at (n % 146097) (Nat.mod_lt _ (by decide))
  unfold good at hg
  simp only [Bool.and_eq_true, decide_eq_true_eq, Bool.or_eq_true, bne_iff_ne] at hg
  obtain ⟨⟨⟨h1, h2⟩, h3⟩, h4⟩ := hg
  have hN := N_era (zOf n)
  have e1 : zOf n / 400 = n / 146097 := by unfold zOf; omega
  have e2 : zOf n % 400 = yo (n % 146097) := by unfold zOf; omega
  rw [e1, e2] at hN
  have hr : rOf n = n % 146097 - (365 * yo (n % 146097) + yo (n % 146097) / 4 - yo (n % 146097) / 100) := rfl
  refine ⟨?_, h2, fun h => ?_⟩
  · rw [← hN, hr]
    generalize yo (n % 146097) = q at *
    omega
  · have h5 : leap (yo (n % 146097) + 1) = true := by
      rcases h4 with h4 | h4
      · exact absurd h h4
      · exact h4
    rw [show zOf n + 1 = (yo (n % 146097) + 1) + n / 146097 * 400 by unfold zOf; omega, leap_mod]
    exact h5
theorem N_next (z : Nat) : N z + 365 ≤ N (z + 1) := by unfold N; omega
theorem N_mono (z : Nat) : ∀ k, N z ≤ N (z + k)
  | 0 => Nat.le_refl _
  | k + 1 => by
    have := N_mono z k
    have := N_next (z + k)
    rw [show z + (k + 1) = z + k + 1 by omega]
    omega
theorem z_of_ge {n a : Nat} (h : N a + 1 ≤ n) : a ≤ zOf n := by
  obtain ⟨h1, h2, _⟩ := parts n
  rcases Nat.lt_or_ge (zOf n) a with hlt | hge
  · have h3 := N_next (zOf n)
    have h4 := N_mono (zOf n + 1) (a - (zOf n + 1))
    rw [show zOf n + 1 + (a - (zOf n + 1)) = a by omega] at h4
    omega
  · exact hge
/-- A day's year and month. -/
def yOf (n : Nat) : Nat := if mm (rOf n) ≤ 9 then zOf n - 4000 else zOf n - 3999
def mOf (n : Nat) : Nat := if mm (rOf n) ≤ 9 then mm (rOf n) + 3 else mm (rOf n) - 9
def dOf (n : Nat) : Nat := dd (rOf n)
theorem date_valid (n : Nat) (hz : 4000 ≤ zOf n) : Valid (yOf n) (mOf n) (dOf n) ∧ day (yOf n) (mOf n) (dOf n) = n := by
  obtain ⟨h1, h2, h3⟩ := parts n
  obtain ⟨g1, g2, g3⟩ := okm_at _ h2
  unfold yOf mOf dOf day Valid month
  have hd : 1 ≤ dd (rOf n) := by unfold dd; omega
  have hdd : dd (rOf n) = rOf n - (153 * mm (rOf n) + 2) / 5 + 1 := rfl
  have hleap : leap (zOf n - 3999) = leap (zOf n + 1) := by
    rw [← leap_mod (zOf n - 3999) 10]
    congr 1
    omega
  generalize dd (rOf n) = D at *
  generalize mm (rOf n) = M at *
  by_cases h9 : M ≤ 9
  · rw [if_pos h9, if_pos h9]
    have e1 : ¬ M + 3 ≤ 2 := by omega
    rw [if_neg e1, if_neg e1]
    have e2 : zOf n - 4000 + 4000 = zOf n := by omega
    rw [e2]
    have hM : M = 0 ∨ M = 1 ∨ M = 2 ∨ M = 3 ∨ M = 4 ∨ M = 5 ∨ M = 6 ∨ M = 7 ∨ M = 8 ∨ M = 9 := by omega
    refine ⟨⟨by omega, by omega, hd, ?_⟩, ?_⟩
    · rcases hM with rfl | rfl | rfl | rfl | rfl | rfl | rfl | rfl | rfl | rfl <;> simp at g3 ⊢ <;> exact g3
    · rw [show M + 3 - 3 = M by omega]
      omega
  · rw [if_neg h9, if_neg h9]
    have hM : M = 10 ∨ M = 11 := by omega
    have e1 : M - 9 ≤ 2 := by omega
    rw [if_pos e1, if_pos e1]
    have e2 : zOf n - 3999 + 3999 = zOf n := by omega
    rw [e2]
    refine ⟨⟨by omega, by omega, hd, ?_⟩, ?_⟩
    · rcases hM with rfl | rfl
      · simp at g3 ⊢; exact g3
      · simp at g3 ⊢
        rw [hleap]
        by_cases h5 : rOf n = 365
        · rw [h3 h5]; rw [if_pos h5] at g3; simpa using g3
        · rw [if_neg h5] at g3; split <;> omega
    · rw [show M - 9 + 9 = M by omega]
      omega
theorem z_of_day {y m d : Nat} (hy : 1 ≤ y) (h1 : 1 ≤ m) (h2 : m ≤ 12) : 4000 ≤ zOf (day y m d) := by
  refine z_of_ge ?_
  unfold day
  by_cases h : m ≤ 2
  · rw [if_pos h, if_pos h]
    have := N_mono 4000 (y + 3999 - 4000)
    rw [show 4000 + (y + 3999 - 4000) = y + 3999 by omega] at this
    generalize N 4000 = A at *
    generalize N (y + 3999) = B at *
    omega
  · rw [if_neg h, if_neg h]
    have h3 := N_mono 4001 (y + 4000 - 4001)
    rw [show 4001 + (y + 4000 - 4001) = y + 4000 by omega] at h3
    have h4 := N_next 4000
    rw [show 4000 + 1 = 4001 from rfl] at h4
    generalize N 4000 = A at *
    generalize N 4001 = C at *
    generalize N (y + 4000) = B at *
    omega
/-- A date's day has that date. -/
theorem date_back {y m d : Nat} (hy : 1 ≤ y) (h : Valid y m d) : yOf (day y m d) = y ∧ mOf (day y m d) = m ∧ dOf (day y m d) = d := by
  obtain ⟨h1, h2⟩ := date_valid (day y m d) (z_of_day hy h.1 h.2.1)
  exact day_inj h1 h h2
/-- What is no date has another one. -/
theorem date_only {y m d : Nat} (hy : 1 ≤ y) (h1 : 1 ≤ m) (h2 : m ≤ 12) (h : yOf (day y m d) = y ∧ mOf (day y m d) = m ∧ dOf (day y m d) = d) : Valid y m d := by
  obtain ⟨h3, _⟩ := date_valid (day y m d) (z_of_day hy h1 h2)
  rw [h.1, h.2.1, h.2.2] at h3
  exact h3
end Cal
end Go.Proofs.YthkggeohdclffaaDoor
