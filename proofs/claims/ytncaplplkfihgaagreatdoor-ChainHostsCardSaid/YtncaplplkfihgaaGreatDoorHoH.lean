/-
  chain.Matches, walked.
-/
import Derived.Test.YtncaplplkfihgaaGreatDoorHoG
set_option linter.unusedVariables false
set_option linter.unusedSimpArgs false
set_option maxRecDepth 100000
namespace Go.Proofs.YtncaplplkfihgaaGreatDoor
open Go.RowKit
namespace Host
theorem star_prefix (p : List UInt8) : Lib.hasPrefix p [42, 46] = decide (p.take 2 = [42, 46]) := by
  unfold Lib.hasPrefix
  rcases p with _ | ⟨a, _ | ⟨b, r⟩⟩
  · rfl
  · simp [List.isPrefixOf]
  · by_cases ha : a = 42
    · by_cases hb : b = 46
      · subst ha; subst hb; simp [List.isPrefixOf]
      · subst ha; simp [List.isPrefixOf, hb, Ne.symm hb]
    · simp [List.isPrefixOf, ha, Ne.symm ha]
theorem toList_beq (a b : List UInt8) : ((str a).toList == (str b).toList) = decide (a = b) := by
  rw [str, str, ByteArray.toList_mk, ByteArray.toList_mk, Bool.eq_iff_iff, beq_iff_eq, decide_eq_true_eq]
/-- What is asked of the callees, each by one name. -/
structure Asks (p n : List UInt8) (h1 s1 : Bool) (r q r' q' : ByteArray) (k : Int) : Prop where
  host : ∀ w, Calls Tryz.prog 5 #[.string (str n)] w fun e w' => e = .returned (.bool h1) ∧ Below w.heap.size w w'
  cutp : ∀ w, Calls Tryz.prog 12 #[.string (str p), .string ⟨#[42, 46]⟩] w fun e w' => e = .returned (.tuple #[.string r, .bool s1]) ∧ w' = w
  cut : ∀ w, Calls Tryz.prog 13 #[.string (str n), .string ⟨#[46]⟩] w fun e w' => ∃ a b, e = .returned (.tuple #[.string a, .string q, .bool b]) ∧ Below w.heap.size w w'
  cnt : ∀ w, Calls Tryz.prog 10 #[.string r] w fun e w' => e = .returned (.int .i64 k) ∧ Below w.heap.size w w'
  low1 : ∀ w, Calls Tryz.prog 14 #[.string r] w fun e w' => e = .returned (.string r') ∧ Below w.heap.size w w'
  low2 : ∀ w, Calls Tryz.prog 14 #[.string q] w fun e w' => e = .returned (.string q') ∧ Below w.heap.size w w'
theorem size2 {w w1 w2 : World} (a : Below w.heap.size w w1) (b : Below w1.heap.size w1 w2) : Below w.heap.size w w2 := a.trans (b.mono a.size)
end Host
set_option maxHeartbeats 4000000 in
set_option maxRecDepth 100000 in
theorem Matches_star (p n : List UInt8) (r q r' q' : ByteArray) (k : Int) (H : Hd (Host.Asks p n true true r q r' q' k)) (w : World) : Calls Tryz.prog 7 #[.string (str p), .string (str n)] w fun e w' => e = .returned (.bool (decide (2 ≤ k) && (r'.toList == q'.toList))) ∧ Below w.heap.size w w' := by
  by_cases h2 : 2 ≤ k
  · have g2 : decide (2 ≤ k) = true := decide_eq_true h2
    rw [g2, Bool.true_and]
    go_enter Tryz.func7, Tryz.ntmps7
    go_wp2_with (first
      | ((with_reducible refine (H.out.host _).mono ?_); rintro e w1 ⟨rfl, hB1⟩)
      | ((with_reducible refine (H.out.cutp _).mono ?_); rintro e w2 ⟨rfl, rfl⟩)
      | ((with_reducible refine (H.out.cut _).mono ?_); rintro e w3 ⟨a, b, rfl, hB3⟩)
      | ((with_reducible refine (H.out.cnt _).mono ?_); rintro e w4 ⟨rfl, hB4⟩)
      | ((with_reducible refine (H.out.low1 _).mono ?_); rintro e w5 ⟨rfl, hB5⟩)
      | ((with_reducible refine (H.out.low2 _).mono ?_); rintro e w6 ⟨rfl, hB6⟩))
    go_ret
    exact ⟨by simp, Host.size2 hB1 (Host.size2 hB3 (Host.size2 hB4 (Host.size2 hB5 hB6)))⟩
  · have g2 : decide (2 ≤ k) = false := decide_eq_false h2
    rw [g2, Bool.false_and]
    go_enter Tryz.func7, Tryz.ntmps7
    go_wp2_with (first
      | ((with_reducible refine (H.out.host _).mono ?_); rintro e w1 ⟨rfl, hB1⟩)
      | ((with_reducible refine (H.out.cutp _).mono ?_); rintro e w2 ⟨rfl, rfl⟩)
      | ((with_reducible refine (H.out.cut _).mono ?_); rintro e w3 ⟨a, b, rfl, hB3⟩)
      | ((with_reducible refine (H.out.cnt _).mono ?_); rintro e w4 ⟨rfl, hB4⟩))
    go_ret
    exact ⟨by simp, Host.size2 hB1 (Host.size2 hB3 hB4)⟩
set_option maxHeartbeats 4000000 in
set_option maxRecDepth 100000 in
theorem Matches_plain (p n : List UInt8) (r q r2 q2 r' q' : ByteArray) (k : Int) (h : Bool) (H : Hd (Host.Asks p n true false r q r2 q2 k)) (H2 : Hd (∀ w, Calls Tryz.prog 5 #[.string (str p)] w fun e w' => e = .returned (.bool h) ∧ Below w.heap.size w w')) (H3 : Hd (∀ w, Calls Tryz.prog 14 #[.string (str p)] w fun e w' => e = .returned (.string r') ∧ Below w.heap.size w w')) (H4 : Hd (∀ w, Calls Tryz.prog 14 #[.string (str n)] w fun e w' => e = .returned (.string q') ∧ Below w.heap.size w w')) (w : World) : Calls Tryz.prog 7 #[.string (str p), .string (str n)] w fun e w' => e = .returned (.bool (h && (r'.toList == q'.toList))) ∧ Below w.heap.size w w' := by
  cases h
  · rw [Bool.false_and]
    go_enter Tryz.func7, Tryz.ntmps7
    obtain ⟨tk1⟩ : Hd True := ⟨trivial⟩
    go_wp2_with (first
      | ((with_reducible refine (H2.out _).mono ?_); rintro e w3 ⟨rfl, hB3⟩)
      | ((with_reducible refine (H.out.host _).mono ?_); rintro e w1 ⟨rfl, hB1⟩)
      | ((with_reducible refine (H.out.cutp _).mono ?_); rintro e w2 ⟨rfl, rfl⟩))
    go_ret
    exact ⟨by simp, Host.size2 hB1 hB3⟩
  · rw [Bool.true_and]
    go_enter Tryz.func7, Tryz.ntmps7
    go_wp2_with (first
      | ((with_reducible refine (H2.out _).mono ?_); rintro e w3 ⟨rfl, hB3⟩)
      | ((with_reducible refine (H.out.host _).mono ?_); rintro e w1 ⟨rfl, hB1⟩)
      | ((with_reducible refine (H.out.cutp _).mono ?_); rintro e w2 ⟨rfl, rfl⟩)
      | ((with_reducible refine (H4.out _).mono ?_); rintro e w5 ⟨rfl, hB5⟩)
      | ((with_reducible refine (H3.out _).mono ?_); rintro e w4 ⟨rfl, hB4⟩))
    go_ret
    exact ⟨by simp, Host.size2 hB1 (Host.size2 hB3 (Host.size2 hB4 hB5))⟩
theorem Host.behind_len (n : List UInt8) : (Host.behind n).length ≤ n.length := by
  unfold Host.behind
  split
  · rw [List.length_drop]; omega
  · exact Nat.zero_le _
theorem Host.asks (p n : List UInt8) (hp : p.length ≤ 9223372036854775800) (hn : n.length ≤ 9223372036854775800) (h0 : 0 < Host.lab n) (s : Bool) (hs : decide (p.take 2 = [42, 46]) = s) :
    Host.Asks p n true s (if s then str (p.drop 2) else str p) (str (Host.behind n)) (if s then str (Host.low (p.drop 2)) else str (Host.low p)) (str (Host.low (Host.behind n))) (if s then ((Host.lab (p.drop 2) : Nat) : Int) else ((Host.lab p : Nat) : Int)) where
  host w := by
    refine (Host_any n hn w).mono ?_
    rw [decide_eq_true h0]
    exact fun e w1 h => h
  cutp w := by
    refine (Tryz.strings_CutPrefix (str p) (str [42, 46]) w).mono ?_
    rintro e w1 ⟨rfl, rfl⟩
    have hx : Lib.hasPrefix p [42, 46] = s := by rw [Host.star_prefix, hs]
    rw [show Lib.hasPrefix (str p).data.toList (str [42, 46]).data.toList = s from hx, show Lib.trimPrefix (str p).data.toList (str [42, 46]).data.toList = if s then p.drop 2 else p by
      show Lib.trimPrefix p [42, 46] = _
      unfold Lib.trimPrefix; rw [hx]; rfl]
    cases s
    · exact ⟨rfl, rfl⟩
    · exact ⟨rfl, rfl⟩
  cut w := Cut_any n hn w
  cnt w := by
    cases s
    · exact counted_any p hp w
    · exact counted_any (p.drop 2) (by rw [List.length_drop]; omega) w
  low1 w := by
    cases s
    · exact lowered_any p hp w
    · exact lowered_any (p.drop 2) (by rw [List.length_drop]; omega) w
  low2 w := lowered_any (Host.behind n) (Nat.le_trans (Host.behind_len n) hn) w
theorem Matches_any (p n : List UInt8) (hp : p.length ≤ 9223372036854775800) (hn : n.length ≤ 9223372036854775800) (w : World) : Calls Tryz.prog 7 #[.string (str p), .string (str n)] w fun e w' => e = .returned (.bool (Host.mat p n)) ∧ Below w.heap.size w w' := by
  by_cases h0 : 0 < Host.lab n
  · by_cases hs : p.take 2 = [42, 46]
    · have hm : Host.mat p n = (decide (2 ≤ ((Host.lab (p.drop 2) : Nat) : Int)) && ((str (Host.low (p.drop 2))).toList == (str (Host.low (Host.behind n))).toList)) := by
        rw [Host.toList_beq]
        unfold Host.mat
        rw [decide_eq_true h0, if_pos hs, Bool.true_and]
        congr 1
        exact decide_eq_decide.2 (by omega)
      rw [hm]
      exact Matches_star p n _ _ _ _ _ ⟨Host.asks p n hp hn h0 true (decide_eq_true hs)⟩ w
    · have hm : Host.mat p n = (decide (0 < Host.lab p) && ((str (Host.low p)).toList == (str (Host.low n)).toList)) := by
        rw [Host.toList_beq]
        unfold Host.mat
        rw [decide_eq_true h0, if_neg hs, Bool.true_and]
      rw [hm]
      have A := Host.asks p n hp hn h0 false (decide_eq_false hs)
      exact Matches_plain p n _ _ _ _ _ _ _ _ ⟨A⟩ ⟨Host_any p hp⟩ ⟨lowered_any p hp⟩ ⟨lowered_any n hn⟩ w
  · have hm : Host.mat p n = false := by unfold Host.mat; rw [decide_eq_false h0]; rfl
    have hd : decide (0 < Host.lab n) = false := decide_eq_false h0
    rw [hm]
    clear hm
    go_enter Tryz.func7, Tryz.ntmps7
    go_wp2_with (first | (refine (Host_any n hn w).mono ?_; rw [hd]; rintro e w1 ⟨rfl, hB⟩))
    go_ret
    exact ⟨rfl, hB⟩
end Go.Proofs.YtncaplplkfihgaaGreatDoor
