/-
  Items written one behind the other are read one by one.
-/
import Derived.Test.YthkggeohdclffaaDoorDerI
import Derived.Test.YthkggeohdclffaaDoorDerLaw
set_option linter.unusedVariables false
set_option linter.unusedSimpArgs false
set_option maxRecDepth 100000
namespace Go.Proofs.YthkggeohdclffaaDoor
open Go.RowKit
namespace Der
/-- May it be written? -/
def Fits (t : UInt8) (l : List UInt8) : Prop := ¬ (t &&& 31 = 31 ∨ 65535 < l.length)
/-- All, one behind the other. -/
def blob : List (UInt8 × List UInt8) → List UInt8
  | [] => []
  | p :: r => put p.1 p.2 ++ blob r
/-- What stands ahead counts for the place alone. -/
theorem next_at (b : List UInt8) (k : Nat) (hk : k ≤ b.length) (he : (next (b.drop k) 0).err = 0) : next b k = { next (b.drop k) 0 with at_ := (k : Int) } := by
  have e0 : (k : Int).toNat = k := by omega
  have e1 : (0 : Int).toNat = 0 := rfl
  unfold next at he ⊢
  rw [e1] at he ⊢
  rw [e0]
  have hl : (b.drop k).length = b.length - k := List.length_drop
  have hn : nth (b.drop k) 0 = nth b k := by unfold nth; simp [List.getD_eq_getElem?_getD, List.getElem?_drop]
  have hd : ((b.drop k).drop (0 + 1)) = b.drop (k + 1) := by rw [List.drop_drop]
  have hd2 : ∀ j, (b.drop k).drop (0 + 1 + j) = b.drop (k + 1 + j) := fun j => by rw [List.drop_drop]; congr 1; omega
  by_cases c1 : (0 : Int) < 0 ∨ ((b.drop k).length : Int) ≤ 0
  · rw [if_pos c1] at he; cases he
  rw [if_neg c1] at he ⊢
  rw [if_neg (show ¬ ((k : Int) < 0 ∨ (b.length : Int) ≤ (k : Int)) by omega)]
  rw [hn, hd] at he ⊢
  by_cases c2 : nth b k &&& 31 = 31
  · rw [if_pos c2] at he; cases he
  rw [if_neg c2] at he ⊢
  rw [if_neg c2]
  by_cases c3 : (len (b.drop (k + 1))).2.2 ≠ 0
  · rw [if_pos c3] at he; exact absurd he c3
  rw [if_neg c3] at he ⊢
  rw [if_neg c3]
  by_cases c4 : (b.drop k).length - (0 + 1 + (len (b.drop (k + 1))).2.1) < (len (b.drop (k + 1))).1
  · rw [if_pos c4] at he; cases he
  rw [if_neg c4]
  rw [if_neg (show ¬ b.length - (k + 1 + (len (b.drop (k + 1))).2.1) < (len (b.drop (k + 1))).1 by omega)]
  rw [hd2]
theorem put_next' (t : UInt8) (l rest : List UInt8) (h : Fits t l) : next (put t l ++ rest) 0 = ⟨t, l, 0, (put t l).length, 0⟩ := by
  have hx : ¬ t &&& 31 = 31 := fun e => h (.inl e)
  have hn : l.length ≤ 65535 := by unfold Fits at h; omega
  rw [put_is t l h]
  have e : (t :: (lenOf l.length ++ l)) ++ rest = t :: (lenOf l.length ++ (l ++ rest)) := by simp
  rw [e, next_head t (lenOf l.length ++ (l ++ rest)) l.length (lenOf l.length).length hx (len_lenOf _ hn _) (by simp)]
  rw [List.drop_left' rfl, List.take_left' rfl]
  congr 1
  simp; omega
theorem put_pos (t : UInt8) (l : List UInt8) (h : Fits t l) : 0 < (put t l).length ∧ (put t l).length ≤ l.length + 4 := by
  rw [put_is t l h]
  unfold lenOf
  split
  · simp
  · split <;> simp
theorem put_none (t : UInt8) (l : List UInt8) (h : ¬ Fits t l) : put t l = [] := put_no t l (by unfold Fits at h; exact Classical.not_not.1 h)
theorem blob_snoc (ws : List (UInt8 × List UInt8)) (p : UInt8 × List UInt8) : blob (ws ++ [p]) = blob ws ++ put p.1 p.2 := by
  induction ws with
  | nil => simp [blob]
  | cons q r ih => simp [blob, ih]
theorem runs_blob (ws : List (UInt8 × List UInt8)) (hok : ∀ p ∈ ws, Fits p.1 p.2) : ∀ pre : List UInt8, ∃ xs, Runs (pre ++ blob ws) pre.length xs ∧ xs.map (fun x => (x.tag, x.body)) = ws := by
  induction ws with
  | nil => intro pre; exact ⟨[], .done _ (by simp [blob]), rfl⟩
  | cons p r ih =>
    intro pre
    have hp := hok p (by simp)
    obtain ⟨xs, h1, h2⟩ := ih (fun q hq => hok q (by simp [hq])) (pre ++ put p.1 p.2)
    have hdr : (pre ++ blob (p :: r)).drop pre.length = put p.1 p.2 ++ blob r := by rw [List.drop_left' rfl]; rfl
    have hn0 := put_next' p.1 p.2 (blob r) hp
    have hn : next (pre ++ blob (p :: r)) pre.length = ⟨p.1, p.2, pre.length, (put p.1 p.2).length, 0⟩ := by
      rw [next_at _ _ (by simp) (by rw [hdr, hn0]), hdr, hn0]
    refine ⟨next (pre ++ blob (p :: r)) pre.length :: xs, .more _ _ ?_ (by rw [hn]) ?_, ?_⟩
    · have := (put_pos p.1 p.2 hp).1
      simp only [blob, List.length_append]; omega
    · rw [hn]
      have e : pre ++ blob (p :: r) = (pre ++ put p.1 p.2) ++ blob r := by simp [blob]
      rw [e]
      have e2 : pre.length + (put p.1 p.2).length = (pre ++ put p.1 p.2).length := by simp
      show Runs _ (pre.length + (put p.1 p.2).length) xs
      rw [e2]
      exact h1
    · rw [List.map_cons, hn, h2]
end Der
end Go.Proofs.YthkggeohdclffaaDoor
