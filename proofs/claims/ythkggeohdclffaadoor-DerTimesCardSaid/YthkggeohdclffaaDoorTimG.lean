/-
  The calendar, plain: each day of an era has its year (a check of all of them).
-/
import Derived.Test.YthkggeohdclffaaDoorTimA
set_option linter.unusedVariables false
set_option linter.unusedSimpArgs false
set_option maxRecDepth 100000
namespace Go.Proofs.YthkggeohdclffaaDoor
namespace Cal
/-- A day of an era: its year. -/
def yo (o : Nat) : Nat := (o - o / 1460 + o / 36524 - o / 146096) / 365
def doy (o : Nat) : Nat := o - (365 * yo o + yo o / 4 - yo o / 100)
def good (o : Nat) : Bool := decide (365 * yo o + yo o / 4 - yo o / 100 ≤ o) && decide (doy o ≤ 365) && decide (yo o ≤ 399) && (doy o != 365 || leap (yo o + 1))
def goods : Nat → Nat → Bool
  | 0, _ => true
  | k + 1, o => good o && goods k (o + 1)
def allGood : Nat → Nat → Bool
  | 0, _ => true
  | k + 1, o => goods 367 o && allGood k (o + 367)
theorem goods_at : ∀ (k o : Nat), goods k o = true → ∀ j, j < k → good (o + j) = true
  | 0, _, _, j, hj => by omega
  | k + 1, o, h, j, hj => by
    simp only [goods, Bool.and_eq_true] at h
    cases j with
    | zero => exact h.1
    | succ j => have := goods_at k (o + 1) h.2 j (by omega); rwa [show o + 1 + j = o + (j + 1) by omega] at this
theorem allGood_at : ∀ (k o : Nat), allGood k o = true → ∀ j, j < 367 * k → good (o + j) = true
  | 0, _, _, j, hj => by omega
  | k + 1, o, h, j, hj => by
    simp only [allGood, Bool.and_eq_true] at h
    rcases Nat.lt_or_ge j 367 with h1 | h1
    · exact goods_at 367 o h.1 j h1
    · have := allGood_at k (o + 367) h.2 (j - 367) (by omega)
      rwa [show o + 367 + (j - 367) = o + j by omega] at this
set_option maxRecDepth 100000 in
theorem all_good : allGood 398 0 = true := by kernel_rfl
set_option maxRecDepth 100000 in
theorem last_good : goods 31 146066 = true := by kernel_rfl
theorem good_at (o : Nat) (h : o < 146097) : good o = true := by
  rcases Nat.lt_or_ge o 146066 with h1 | h1
  · have := allGood_at 398 0 all_good o (by omega)
    rwa [Nat.zero_add] at this
  · have := goods_at 31 146066 last_good (o - 146066) (by omega)
    rwa [show 146066 + (o - 146066) = o by omega] at this
end Cal
end Go.Proofs.YthkggeohdclffaaDoor
