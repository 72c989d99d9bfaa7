/-
  Hosts and patterns, walked.
-/
import Derived.Test.YtncaplplkfihgaaGreatDoorHoE
set_option linter.unusedVariables false
set_option linter.unusedSimpArgs false
set_option maxRecDepth 100000
namespace Go.Proofs.YtncaplplkfihgaaGreatDoor
open Go.RowKit
theorem Host_any (l : List UInt8) (hl : l.length ≤ 9223372036854775800) (w : World) : Calls Tryz.prog 5 #[.string (str l)] w fun e w' => e = .returned (.bool (decide (0 < Host.lab l))) ∧ Below w.heap.size w w' := by
  go_enter Tryz.func5, Tryz.ntmps5
  go_wp2_with (first | (refine (counted_any l hl w).mono ?_; rintro e w1 ⟨rfl, hB⟩))
  go_ret
  exact ⟨by simp, hB⟩
theorem Host_ref (l : List UInt8) (w : World) : Calls Tryz.prog 6 #[.string (str l)] w fun e w' => e = .returned (.bool (decide (0 < Host.lab l))) ∧ w' = w := by
  go_enter Tryz.func6, Tryz.ntmps6
  go_wp2_with (first | (refine (labels_any l w).mono ?_; rintro e w1 ⟨rfl, rfl⟩))
  go_ret
  exact ⟨by simp, rfl⟩
namespace Host
/-- What stands behind the first dot. -/
def behind (l : List UInt8) : List UInt8 := match Lib.indexByte l 46 with | .ofNat i => l.drop (i + 1) | .negSucc _ => []
end Host
theorem liteCut_any (l : List UInt8) (hl : l.length ≤ 9223372036854775800) (w : World) : Calls Tryz.prog 36 #[.string (str l), .string (str [46])] w fun e w' => ∃ a b, e = .returned (.tuple #[.string a, .string (str (Host.behind l)), .bool b]) ∧ Below w.heap.size w w' := by
  rcases Host.index_cases l 46 with hi | ⟨i, hi⟩
  · have hb : Host.behind l = [] := by unfold Host.behind; rw [hi]; rfl
    rw [hb]
    go_enter Tryz.func36, Tryz.ntmps36
    go_wp2_with (first | (refine (Tryz.stringslite_Index_one (str l) 46 w).mono ?_; rintro e w1 ⟨rfl, rfl⟩; rw [show Lib.indexByte (str l).data.toList 46 = Lib.indexByte l 46 from rfl, hi]))
    ((try simp only [Exit.inBlock, Exit.then]); refine bodyPost_ret (results_tmp3 rfl _ _ _) rfl ?_)
    exact ⟨_, _, rfl, Below.refl _ _⟩
  · have hb : Host.behind l = l.drop (i + 1) := by unfold Host.behind; rw [hi]
    have q1 := (Host.index_some hi).1
    have t0 : ¬ (i : Int) < 0 := by omega
    have t1 : (i : Int) ≤ (l.length : Int) := by omega
    have t2 : i ≤ l.length := by omega
    have t3 : i + 1 ≤ l.length := by omega
    have y1 : wrap64 ((i : Int) + ((str [46]).size : Int)) = ((i + 1 : Nat) : Int) := by
      rw [show ((i : Int) + ((str [46]).size : Int)) = ((i + 1 : Nat) : Int) from rfl]; exact IntWalk.wrap64_in _ (by omega)
    have wk1 : wrap64 ((i : Int) + 1) = ((i + 1 : Nat) : Int) := y1
    have y2 : ((i + 1 : Nat) : Int) ≤ ((str l).size : Int) := by rw [str_size]; omega
    have x3 : (str l).extract (i + 1) (str l).size = str (l.drop (i + 1)) := by rw [str_size, str_extract, List.take_of_length_le (by simp)]
    rw [hb]
    have HI : Calls Tryz.prog 49 #[.string (str l), .string (str [46])] w fun e w' => e = .returned (.int .i64 (i : Int)) ∧ w' = w := by
      refine (Tryz.stringslite_Index_one (str l) 46 w).mono ?_
      rintro e w1 ⟨rfl, rfl⟩
      rw [show Lib.indexByte (str l).data.toList 46 = Lib.indexByte l 46 from rfl, hi]
      exact ⟨rfl, rfl⟩
    generalize str [46] = d at HI y1 ⊢
    clear hb hi q1
    go_enter Tryz.func36, Tryz.ntmps36
    go_wp2_with (first | (refine HI.mono ?_; rintro e w1 ⟨rfl, rfl⟩))
    refine Code.wp_mono (Q := fun e a' w' => e = .normal ∧ a'.defers = [] ∧ Below w1.heap.size w1 w' ∧ ∃ x, a'.tmps.getD 4 undef = .string x ∧ a'.tmps.getD 5 undef = .string (str (l.drop (i + 1))) ∧ a'.tmps.getD 6 undef = .bool true) (fun e a' w' hh => ?_) ?_
    · obtain ⟨rfl, hdf, hB, x, h4, h5, h6⟩ := hh
      go_wp2
      refine bodyPost_ret (results_tmp3 rfl _ _ _) hdf ?_
      exact ⟨x, true, by rw [h4, h5, h6], hB⟩
    · go_region
      all_goals first
        | exact ⟨rfl, rfl, Below.refl _ _, _, rfl, rfl, rfl⟩
        | exact ⟨rfl, rfl, (Below.refl _ _).drew, _, rfl, rfl, rfl⟩
theorem Cut_any (l : List UInt8) (hl : l.length ≤ 9223372036854775800) (w : World) : Calls Tryz.prog 13 #[.string (str l), .string (str [46])] w fun e w' => ∃ a b, e = .returned (.tuple #[.string a, .string (str (Host.behind l)), .bool b]) ∧ Below w.heap.size w w' := by
  go_enter Tryz.func13, Tryz.ntmps13
  go_wp2_with (first | (refine (liteCut_any l hl w).mono ?_; rintro e w1 ⟨a, b, rfl, hB⟩))
  ((try simp only [Exit.inBlock, Exit.then]); refine bodyPost_ret (results_tmp3 rfl _ _ _) rfl ?_)
  exact ⟨_, _, rfl, hB⟩
end Go.Proofs.YtncaplplkfihgaaGreatDoor
