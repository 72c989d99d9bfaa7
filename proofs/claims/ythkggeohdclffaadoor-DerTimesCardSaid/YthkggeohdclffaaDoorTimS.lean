/-
  Times, plain: what a text of digits says.
-/
import Derived.Test.YthkggeohdclffaaDoorTimC
import Derived.Test.YthkggeohdclffaaDoorTrim
import Derived.Lib.SmallJoins
set_option linter.unusedVariables false
set_option linter.unusedSimpArgs false
set_option maxRecDepth 100000
namespace Go.Proofs.YthkggeohdclffaaDoor
namespace Cal
def digits : List UInt8 := [48, 49, 50, 51, 52, 53, 54, 55, 56, 57]
theorem digit_is (c : UInt8) : inSet digits c = true ↔ 48 ≤ n8 c ∧ n8 c ≤ 57 := by
  have h : ∀ c : UInt8, (inSet digits c == (decide (48 ≤ n8 c) && decide (n8 c ≤ 57))) = true := by
    have hall : (List.range 256).all (fun k => inSet digits (UInt8.ofNat k) == (decide (48 ≤ n8 (UInt8.ofNat k)) && decide (n8 (UInt8.ofNat k) ≤ 57))) = true := by kernel_rfl
    intro c
    have := List.all_eq_true.1 hall (n8 c) (List.mem_range.2 (n8_lt c))
    rwa [show UInt8.ofNat (n8 c) = c from UInt8.ofNat_toNat] at this
  have h1 := beq_iff_eq.1 (h c)
  rw [h1]
  simp
/-- A digit's value; two digits' one. -/
def dv (c : UInt8) : Nat := n8 c - 48
def pr (l : List UInt8) (k : Nat) : Nat := 10 * dv (nth l (2 * k)) + dv (nth l (2 * k + 1))
theorem digitVal_is (c : UInt8) (h : inSet digits c = true) : Lib.digitVal c = some (dv c) := by
  have h1 : 48 ≤ c.toNat ∧ c.toNat ≤ 57 := (digit_is c).1 h
  unfold Lib.digitVal
  rw [if_pos h1]
  rfl
theorem dv_le (c : UInt8) (h : inSet digits c = true) : dv c ≤ 9 := by
  have := (digit_is c).1 h
  unfold dv
  omega
theorem not_sign (c : UInt8) (h : inSet digits c = true) : (c == 45) = false ∧ (c == 43) = false := by
  have h1 := (digit_is c).1 h
  constructor
  · rw [beq_eq_false_iff_ne]
    rintro rfl
    have : n8 45 = 45 := rfl
    omega
  · rw [beq_eq_false_iff_ne]
    rintro rfl
    have : n8 43 = 43 := rfl
    omega
theorem atoi2 (a b : UInt8) (ha : inSet digits a = true) (hb : inSet digits b = true) : Lib.atoi [a, b] = some ((10 * dv a + dv b : Nat) : Int) := by
  unfold Lib.atoi
  simp only [(not_sign a ha).1, (not_sign a ha).2]
  simp [Lib.decNat, Lib.decFrom, digitVal_is a ha, digitVal_is b hb]
  omega
theorem atoi4 (a b c d : UInt8) (ha : inSet digits a = true) (hb : inSet digits b = true) (hc : inSet digits c = true) (hd : inSet digits d = true) : Lib.atoi [a, b, c, d] = some ((100 * (10 * dv a + dv b) + (10 * dv c + dv d) : Nat) : Int) := by
  unfold Lib.atoi
  simp only [(not_sign a ha).1, (not_sign a ha).2]
  simp [Lib.decNat, Lib.decFrom, digitVal_is a ha, digitVal_is b hb, digitVal_is c hc, digitVal_is d hd]
  omega
/-- All digits? -/
def allD (l : List UInt8) : Prop := ∀ c ∈ l, inSet digits c = true
theorem allD_nth {l : List UInt8} (h : allD l) {k : Nat} (hk : k < l.length) : inSet digits (nth l k) = true := by
  unfold nth
  rw [List.getD_eq_getElem?_getD, List.getElem?_eq_getElem hk]
  exact h _ (List.getElem_mem hk)
theorem dropWhile_nil {f : UInt8 → Bool} : ∀ l : List UInt8, l.dropWhile f = [] ↔ ∀ c ∈ l, f c = true
  | [] => by simp
  | x :: r => by
    rw [List.dropWhile_cons]
    by_cases h : f x = true
    · rw [if_pos h, dropWhile_nil r]
      simp [h]
    · rw [if_neg h]
      simp [h]
theorem trim_nil (l : List UInt8) : (trimR (inSet digits) l).dropWhile (inSet digits) = [] ↔ allD l := by
  rw [dropWhile_nil]
  constructor
  · intro h
    unfold trimR at h
    rcases hd : l.reverse.dropWhile (inSet digits) with _ | ⟨x, r⟩
    · intro c hc
      exact (dropWhile_nil l.reverse).1 hd c (List.mem_reverse.2 hc)
    · have hx : inSet digits x = true := h x (by rw [hd]; simp)
      have := List.head_dropWhile_not (inSet digits) (l := l.reverse) (by rw [hd]; simp)
      simp only [hd, List.head_cons] at this
      rw [hx] at this
      cases this
  · intro h c hc
    unfold trimR at hc
    refine h c ?_
    have h1 := List.mem_reverse.1 hc
    exact List.mem_reverse.1 ((List.dropWhile_suffix _).subset h1)
/-- What a date and a time of day say; whether they may. -/
def ok (y m d h i s : Nat) : Prop := 1 ≤ y ∧ Valid y m d ∧ h ≤ 23 ∧ i ≤ 59 ∧ s ≤ 59
def fin (y m d h i s : Nat) : Int := ((day y m d : Nat) - 2180438) * 86400 + ((h : Int) * 3600 + (i : Int) * 60 + (s : Int))
theorem N_le (z : Nat) : N z ≤ 366 * z := by unfold N; omega
theorem day_le {y m d : Nat} (hy : y ≤ 9999) (hm : m ≤ 99) (hd : d ≤ 99) : ((day y m d : Nat) : Int) ≤ 6000000 := by
  unfold day
  have h1 := N_le (y + 3999)
  have h2 := N_le (y + 4000)
  split
  · omega
  · omega
end Cal
end Go.Proofs.YthkggeohdclffaaDoor
