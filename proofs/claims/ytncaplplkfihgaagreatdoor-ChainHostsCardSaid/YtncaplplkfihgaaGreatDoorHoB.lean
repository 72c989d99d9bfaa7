/-
  Labels of hosts, plain.
-/
import Derived.Test.YtncaplplkfihgaaGreatDoorHoA
set_option linter.unusedVariables false
set_option linter.unusedSimpArgs false
set_option maxRecDepth 100000
namespace Go.Proofs.YtncaplplkfihgaaGreatDoor
namespace Host
/-- A letter more: what stands ahead of the last dot, part by part; what stands behind it. -/
def step (s : List (List UInt8) × List UInt8) (x : UInt8) : List (List UInt8) × List UInt8 := if x = 46 then (s.1 ++ [s.2], []) else (s.1, s.2 ++ [x])
def st (l : List UInt8) : List (List UInt8) × List UInt8 := l.foldl step ([], [])
def parts (l : List UInt8) : List (List UInt8) := (st l).1 ++ [(st l).2]
theorem st_snoc (l : List UInt8) (x : UInt8) : st (l ++ [x]) = step (st l) x := by unfold st; rw [List.foldl_append]; rfl
theorem st_nil : st [] = ([], []) := rfl
theorem fold_from (m : List UInt8) : ∀ (D : List (List UInt8)) (C : List UInt8), m.foldl step (D, C) = (D ++ (m.foldl step ([], C)).1, (m.foldl step ([], C)).2) := by
  induction m with
  | nil => intro D C; simp
  | cons x r ih =>
    intro D C
    simp only [List.foldl_cons]
    by_cases h : x = 46
    · have e1 : step (D, C) x = (D ++ [C], []) := by unfold step; rw [if_pos h]
      have e2 : step (([], C) : List (List UInt8) × List UInt8) x = ([C], []) := by unfold step; rw [if_pos h]; rfl
      rw [e1, e2, ih (D ++ [C]) [], ih [C] []]
      simp
    · have e1 : step (D, C) x = (D, C ++ [x]) := by unfold step; rw [if_neg h]
      have e2 : step (([], C) : List (List UInt8) × List UInt8) x = ([], C ++ [x]) := by unfold step; rw [if_neg h]
      rw [e1, e2, ih D (C ++ [x])]
theorem st_app (l m : List UInt8) : st (l ++ m) = ((st l).1 ++ (m.foldl step ([], (st l).2)).1, (m.foldl step ([], (st l).2)).2) := by
  unfold st
  rw [List.foldl_append]
  exact fold_from m _ _
/-- Behind a dot all begins anew. -/
theorem parts_dot (l m : List UInt8) : parts (l ++ 46 :: m) = (st l).1 ++ [(st l).2] ++ parts m := by
  unfold parts
  rw [show l ++ 46 :: m = (l ++ [46]) ++ m by simp, st_app, st_snoc]
  have e : step (st l) 46 = ((st l).1 ++ [(st l).2], []) := by unfold step; rw [if_pos rfl]
  rw [e]
  simp [st]
/-- What holds no dot is one part. -/
theorem fold_plain (m : List UInt8) (h : ∀ x ∈ m, x ≠ 46) : ∀ C, m.foldl step ([], C) = ([], C ++ m) := by
  induction m with
  | nil => intro C; simp
  | cons x r ih =>
    intro C
    have hx := h x (by simp)
    have e : step (([], C) : List (List UInt8) × List UInt8) x = ([], C ++ [x]) := by unfold step; rw [if_neg hx]
    rw [List.foldl_cons, e, ih (fun y hy => h y (by simp [hy]))]
    simp
theorem st_plain (m : List UInt8) (h : ∀ x ∈ m, x ≠ 46) : st m = ([], m) := by
  have := fold_plain m h []
  simpa [st] using this
theorem parts_plain (m : List UInt8) (h : ∀ x ∈ m, x ≠ 46) : parts m = [m] := by unfold parts; rw [st_plain m h]; rfl
theorem snoc_ind {m : List UInt8 → Prop} (h0 : m []) (h1 : ∀ l x, m l → m (l ++ [x])) (l : List UInt8) : m l := by
  have h : ∀ r : List UInt8, m r.reverse := by
    intro r
    induction r with
    | nil => exact h0
    | cons x r ih => rw [List.reverse_cons]; exact h1 _ _ ih
  have := h l.reverse
  rwa [List.reverse_reverse] at this
/-- The last part stands at the end. -/
theorem st_tail (l : List UInt8) : ∃ pre, l = pre ++ (st l).2 := by
  refine snoc_ind (m := fun l => ∃ pre, l = pre ++ (st l).2) ⟨[], rfl⟩ ?_ l
  · intro l x ih
    obtain ⟨pre, e⟩ := ih
    rw [st_snoc]
    unfold step
    split
    · exact ⟨l ++ [x], by simp⟩
    · refine ⟨pre, ?_⟩
      show l ++ [x] = pre ++ ((st l).2 ++ [x])
      rw [← List.append_assoc, ← e]
/-- A letter is of some part. -/
theorem mem_parts (l : List UInt8) (x : UInt8) (hx : x ≠ 46) (h : x ∈ l) : ∃ p ∈ parts l, x ∈ p := by
  revert h
  refine snoc_ind (m := fun l => x ∈ l → ∃ p ∈ parts l, x ∈ p) (fun h => by cases h) ?_ l
  · intro l y ih h
    unfold parts
    rw [st_snoc]
    by_cases hy : y = 46
    · have e : step (st l) y = ((st l).1 ++ [(st l).2], []) := by unfold step; rw [if_pos hy]
      rw [e]
      have hl : x ∈ l := by
        rcases List.mem_append.1 h with h1 | h1
        · exact h1
        · exact absurd (by rw [← hy]; simpa using h1) hx
      obtain ⟨p, hp, hxp⟩ := ih hl
      exact ⟨p, List.mem_append_left _ hp, hxp⟩
    · have e : step (st l) y = ((st l).1, (st l).2 ++ [y]) := by unfold step; rw [if_neg hy]
      rw [e]
      rcases List.mem_append.1 h with h1 | h1
      · obtain ⟨p, hp, hxp⟩ := ih h1
        unfold parts at hp
        rcases List.mem_append.1 hp with h2 | h2
        · exact ⟨p, List.mem_append_left _ h2, hxp⟩
        · obtain rfl : p = (st l).2 := by simpa using h2
          exact ⟨(st l).2 ++ [y], by simp, List.mem_append_left _ hxp⟩
      · exact ⟨(st l).2 ++ [y], by simp, by simp at h1; simp [h1]⟩
/-- May it stand within a label? -/
def isL (c : UInt8) : Bool := (decide (97 ≤ n8 c) && decide (n8 c ≤ 122)) || (decide (65 ≤ n8 c) && decide (n8 c ≤ 90)) || (decide (48 ≤ n8 c) && decide (n8 c ≤ 57)) || c == 45
/-- A label. -/
def okL (p : List UInt8) : Prop := 1 ≤ p.length ∧ p.length ≤ 63 ∧ nth p 0 ≠ 45 ∧ nth p (p.length - 1) ≠ 45 ∧ ∀ c ∈ p, isL c = true
instance (p : List UInt8) : Decidable (okL p) := inferInstanceAs (Decidable (_ ∧ _ ∧ _ ∧ _ ∧ _))
/-- How many labels a host has; 0: it is none. -/
def lab (l : List UInt8) : Nat := if l.length ≤ 253 ∧ ∀ p ∈ parts l, okL p then (parts l).length else 0
theorem lab_bad {l p : List UInt8} (hp : p ∈ parts l) (h : ¬ okL p) : lab l = 0 := by unfold lab; rw [if_neg (fun h2 => h (h2.2 p hp))]
theorem lab_long {l : List UInt8} (h : 253 < l.length) : lab l = 0 := by unfold lab; rw [if_neg (fun h2 => by omega)]
theorem parts_pos (l : List UInt8) : 1 ≤ (parts l).length := by unfold parts; rw [List.length_append]; simp
theorem lab_good {l : List UInt8} (h : 0 < lab l) : l.length ≤ 253 ∧ (∀ p ∈ parts l, okL p) ∧ lab l = (parts l).length := by
  unfold lab at h ⊢
  split at h
  · rename_i h2
    rw [if_pos h2]
    exact ⟨h2.1, h2.2, rfl⟩
  · omega
/-- Small letters: the same parts. -/
theorem lowb_dot (x : UInt8) : lowb x = 46 ↔ x = 46 := by
  have hall : (List.range 256).all (fun k => (lowb (UInt8.ofNat k) == 46) == (UInt8.ofNat k == 46)) = true := by kernel_rfl
  have := List.all_eq_true.1 hall (n8 x) (List.mem_range.2 (n8_lt x))
  rw [show UInt8.ofNat (n8 x) = x from UInt8.ofNat_toNat] at this
  have h := beq_iff_eq.1 this
  constructor
  · intro h1; rw [h1] at h; exact beq_iff_eq.1 h.symm
  · intro h1; rw [beq_iff_eq.2 h1] at h; exact beq_iff_eq.1 h
theorem lowb_dash (x : UInt8) : lowb x = 45 ↔ x = 45 := by
  have hall : (List.range 256).all (fun k => (lowb (UInt8.ofNat k) == 45) == (UInt8.ofNat k == 45)) = true := by kernel_rfl
  have := List.all_eq_true.1 hall (n8 x) (List.mem_range.2 (n8_lt x))
  rw [show UInt8.ofNat (n8 x) = x from UInt8.ofNat_toNat] at this
  have h := beq_iff_eq.1 this
  constructor
  · intro h1; rw [h1] at h; exact beq_iff_eq.1 h.symm
  · intro h1; rw [beq_iff_eq.2 h1] at h; exact beq_iff_eq.1 h
def set37 : List UInt8 := [97, 98, 99, 100, 101, 102, 103, 104, 105, 106, 107, 108, 109, 110, 111, 112, 113, 114, 115, 116, 117, 118, 119, 120, 121, 122, 48, 49, 50, 51, 52, 53, 54, 55, 56, 57, 45]
theorem low_set (x : UInt8) : inSet set37 (lowb x) = isL x := by
  have hall : (List.range 256).all (fun k => inSet set37 (lowb (UInt8.ofNat k)) == isL (UInt8.ofNat k)) = true := by kernel_rfl
  have := List.all_eq_true.1 hall (n8 x) (List.mem_range.2 (n8_lt x))
  rw [show UInt8.ofNat (n8 x) = x from UInt8.ofNat_toNat] at this
  exact beq_iff_eq.1 this
theorem st_low (l : List UInt8) : st (low l) = ((st l).1.map low, low (st l).2) := by
  refine snoc_ind (m := fun l => st (low l) = ((st l).1.map low, low (st l).2)) rfl ?_ l
  · intro l x ih
    have e : low (l ++ [x]) = low l ++ [lowb x] := by simp [low]
    rw [e, st_snoc, st_snoc, ih]
    unfold step
    by_cases h : x = 46
    · rw [if_pos h, if_pos ((lowb_dot x).2 h)]
      simp [low]
    · rw [if_neg h, if_neg (fun h2 => h ((lowb_dot x).1 h2))]
      simp [low]
theorem parts_low (l : List UInt8) : parts (low l) = (parts l).map low := by unfold parts; rw [st_low]; simp
theorem low_len (l : List UInt8) : (low l).length = l.length := by simp [low]
theorem low_nth (l : List UInt8) (k : Nat) (h : k < l.length) : nth (low l) k = lowb (nth l k) := by
  unfold low nth
  simp only [List.getD_eq_getElem?_getD, List.getElem?_map, List.getElem?_eq_getElem h]
  rfl
/-- A label of small letters, as the program asks it. -/
def okC (p : List UInt8) : Prop := 1 ≤ p.length ∧ p.length ≤ 63 ∧ (∀ c ∈ p, inSet set37 c = true) ∧ nth p 0 ≠ 45 ∧ nth p (p.length - 1) ≠ 45
theorem okC_low (p : List UInt8) : okC (low p) ↔ okL p := by
  unfold okC okL
  rw [low_len]
  constructor
  · rintro ⟨h1, h2, h3, h4, h5⟩
    rw [low_nth p 0 (by omega)] at h4
    rw [low_nth p _ (by omega)] at h5
    refine ⟨h1, h2, fun h => h4 ((lowb_dash _).2 h), fun h => h5 ((lowb_dash _).2 h), fun c hc => ?_⟩
    rw [← low_set]
    exact h3 _ (List.mem_map_of_mem hc)
  · rintro ⟨h1, h2, h3, h4, h5⟩
    rw [low_nth p 0 (by omega), low_nth p _ (by omega)]
    refine ⟨h1, h2, fun c hc => ?_, fun h => h3 ((lowb_dash _).1 h), fun h => h4 ((lowb_dash _).1 h)⟩
    obtain ⟨a, ha, rfl⟩ := List.mem_map.1 hc
    rw [low_set]
    exact h5 a ha
instance (p : List UInt8) : Decidable (okC p) := inferInstanceAs (Decidable (_ ∧ _ ∧ _ ∧ _ ∧ _))
/-- What the program counts. -/
theorem lab_low (l : List UInt8) : lab l = if (∀ p ∈ parts (low l), okC p) ∧ l.length ≤ 253 then (parts (low l)).length else 0 := by
  unfold lab
  rw [parts_low, List.length_map]
  have e : (∀ p ∈ (parts l).map low, okC p) ↔ ∀ p ∈ parts l, okL p := by
    constructor
    · intro h p hp
      exact (okC_low p).1 (h _ (List.mem_map_of_mem hp))
    · intro h p hp
      obtain ⟨a, ha, rfl⟩ := List.mem_map.1 hp
      exact (okC_low a).2 (h a ha)
  by_cases h1 : l.length ≤ 253 ∧ ∀ p ∈ parts l, okL p
  · rw [if_pos h1, if_pos ⟨e.2 h1.2, h1.1⟩]
  · rw [if_neg h1, if_neg (fun h2 => h1 ⟨h2.2, e.1 h2.1⟩)]
end Host
end Go.Proofs.YtncaplplkfihgaaGreatDoor
