/-
  The reference's labels, walked.
-/
import Derived.Test.YtncaplplkfihgaaGreatDoorHoB
import Derived.IntWalk
set_option linter.unusedVariables false
set_option linter.unusedSimpArgs false
set_option maxRecDepth 100000
namespace Go.Proofs.YtncaplplkfihgaaGreatDoor
open Go.RowKit
namespace Host
theorem le8 (a b : UInt8) : a ≤ b ↔ n8 a ≤ n8 b := UInt8.le_iff_toNat_le
theorem st_at (l : List UInt8) (k : Nat) (hk : k ≤ l.length) : (st (l.take k)).2.length ≤ k ∧ ∀ j, j < (st (l.take k)).2.length → nth l (k - (st (l.take k)).2.length + j) = nth (st (l.take k)).2 j := by
  obtain ⟨pre, e⟩ := st_tail (l.take k)
  have hl : (l.take k).length = k := by rw [List.length_take]; omega
  have hp : pre.length + (st (l.take k)).2.length = k := by rw [← List.length_append, ← e, hl]
  refine ⟨by omega, fun j hj => ?_⟩
  have h1 : nth l (k - (st (l.take k)).2.length + j) = nth (l.take k) (pre.length + j) := by
    unfold nth
    simp only [List.getD_eq_getElem?_getD, List.getElem?_take]
    rw [if_pos (by omega), show k - (st (l.take k)).2.length + j = pre.length + j by omega]
  rw [h1]
  conv => lhs; rw [e]
  unfold nth
  simp only [List.getD_eq_getElem?_getD]
  rw [List.getElem?_append_right (by omega), Nat.add_sub_cancel_left]
theorem take_dot (l : List UInt8) (k : Nat) (hk : k < l.length) (h : nth l k = 46) : parts l = (st (l.take k)).1 ++ [(st (l.take k)).2] ++ parts (l.drop (k + 1)) := by
  have e : l = l.take k ++ 46 :: l.drop (k + 1) := by
    conv => lhs; rw [← List.take_append_drop k l, List.drop_eq_getElem_cons hk]
    have : l[k] = 46 := by rw [← h]; simp [nth, hk]
    rw [this]
  conv => lhs; rw [e]
  rw [parts_dot]
end Host
theorem letter_any (c : UInt8) (w : World) : Calls Tryz.prog 34 #[.int .u8 ((n8 c : Nat) : Int)] w fun e w' => e = .returned (.bool (Host.isL c)) ∧ w' = w := by
  have L : ∀ a b : UInt8, a ≤ b ↔ n8 a ≤ n8 b := Host.le8
  by_cases h97 : 97 ≤ n8 c
  · by_cases h122 : n8 c ≤ 122
    · have q97 : (97 : UInt8) ≤ c := (L _ _).2 (show 97 ≤ n8 c by omega)
      have q122 : c ≤ (122 : UInt8) := (L _ _).2 (show n8 c ≤ 122 by omega)
      have hv : Host.isL c = true := by unfold Host.isL; simp; omega
      rw [hv]
      clear L hv
      go_enter Tryz.func34, Tryz.ntmps34
      go_wp2
      go_ret
      exact ⟨rfl, rfl⟩
    · have h45 : c ≠ 45 := fun h => by rw [h] at h97; have e : n8 (45 : UInt8) = 45 := rfl; omega
      have q97 : (97 : UInt8) ≤ c := (L _ _).2 (show 97 ≤ n8 c by omega)
      have q122 : ¬ c ≤ (122 : UInt8) := fun h => by have h2 : n8 c ≤ 122 := (L _ _).1 h; omega
      have q65 : (65 : UInt8) ≤ c := (L _ _).2 (show 65 ≤ n8 c by omega)
      have q90 : ¬ c ≤ (90 : UInt8) := fun h => by have h2 : n8 c ≤ 90 := (L _ _).1 h; omega
      have q48 : (48 : UInt8) ≤ c := (L _ _).2 (show 48 ≤ n8 c by omega)
      have q57 : ¬ c ≤ (57 : UInt8) := fun h => by have h2 : n8 c ≤ 57 := (L _ _).1 h; omega
      have q45 : (c == 45) = false := by rw [beq_eq_false_iff_ne]; exact h45
      have hv : Host.isL c = false := by unfold Host.isL; simp [h45]; omega
      rw [hv]
      clear L hv
      go_enter Tryz.func34, Tryz.ntmps34
      go_wp2
      go_ret
      exact ⟨rfl, rfl⟩
  by_cases h65 : 65 ≤ n8 c
  · by_cases h90 : n8 c ≤ 90
    · have q97 : ¬ (97 : UInt8) ≤ c := fun h => by have h2 : 97 ≤ n8 c := (L _ _).1 h; omega
      have q65 : (65 : UInt8) ≤ c := (L _ _).2 (show 65 ≤ n8 c by omega)
      have q90 : c ≤ (90 : UInt8) := (L _ _).2 (show n8 c ≤ 90 by omega)
      have hv : Host.isL c = true := by unfold Host.isL; simp; omega
      rw [hv]
      clear L hv
      go_enter Tryz.func34, Tryz.ntmps34
      go_wp2
      go_ret
      exact ⟨rfl, rfl⟩
    · have h45 : c ≠ 45 := fun h => by rw [h] at h65; have e : n8 (45 : UInt8) = 45 := rfl; omega
      have q97 : ¬ (97 : UInt8) ≤ c := fun h => by have h2 : 97 ≤ n8 c := (L _ _).1 h; omega
      have q65 : (65 : UInt8) ≤ c := (L _ _).2 (show 65 ≤ n8 c by omega)
      have q90 : ¬ c ≤ (90 : UInt8) := fun h => by have h2 : n8 c ≤ 90 := (L _ _).1 h; omega
      have q48 : (48 : UInt8) ≤ c := (L _ _).2 (show 48 ≤ n8 c by omega)
      have q57 : ¬ c ≤ (57 : UInt8) := fun h => by have h2 : n8 c ≤ 57 := (L _ _).1 h; omega
      have q45 : (c == 45) = false := by rw [beq_eq_false_iff_ne]; exact h45
      have hv : Host.isL c = false := by unfold Host.isL; simp [h45]; omega
      rw [hv]
      clear L hv
      go_enter Tryz.func34, Tryz.ntmps34
      go_wp2
      go_ret
      exact ⟨rfl, rfl⟩
  by_cases h48 : 48 ≤ n8 c
  · by_cases h57 : n8 c ≤ 57
    · have q97 : ¬ (97 : UInt8) ≤ c := fun h => by have h2 : 97 ≤ n8 c := (L _ _).1 h; omega
      have q65 : ¬ (65 : UInt8) ≤ c := fun h => by have h2 : 65 ≤ n8 c := (L _ _).1 h; omega
      have q48 : (48 : UInt8) ≤ c := (L _ _).2 (show 48 ≤ n8 c by omega)
      have q57 : c ≤ (57 : UInt8) := (L _ _).2 (show n8 c ≤ 57 by omega)
      have hv : Host.isL c = true := by unfold Host.isL; simp; omega
      rw [hv]
      clear L hv
      go_enter Tryz.func34, Tryz.ntmps34
      go_wp2
      go_ret
      exact ⟨rfl, rfl⟩
    · have h45 : c ≠ 45 := fun h => by rw [h] at h48; have e : n8 (45 : UInt8) = 45 := rfl; omega
      have q97 : ¬ (97 : UInt8) ≤ c := fun h => by have h2 : 97 ≤ n8 c := (L _ _).1 h; omega
      have q65 : ¬ (65 : UInt8) ≤ c := fun h => by have h2 : 65 ≤ n8 c := (L _ _).1 h; omega
      have q48 : (48 : UInt8) ≤ c := (L _ _).2 (show 48 ≤ n8 c by omega)
      have q57 : ¬ c ≤ (57 : UInt8) := fun h => by have h2 : n8 c ≤ 57 := (L _ _).1 h; omega
      have q45 : (c == 45) = false := by rw [beq_eq_false_iff_ne]; exact h45
      have hv : Host.isL c = false := by unfold Host.isL; simp [h45]; omega
      rw [hv]
      clear L hv
      go_enter Tryz.func34, Tryz.ntmps34
      go_wp2
      go_ret
      exact ⟨rfl, rfl⟩
  by_cases h45 : c = 45
  · have q97 : ¬ (97 : UInt8) ≤ c := fun h => by have h2 : 97 ≤ n8 c := (L _ _).1 h; omega
    have q65 : ¬ (65 : UInt8) ≤ c := fun h => by have h2 : 65 ≤ n8 c := (L _ _).1 h; omega
    have q48 : ¬ (48 : UInt8) ≤ c := fun h => by have h2 : 48 ≤ n8 c := (L _ _).1 h; omega
    have q45 : (c == 45) = true := by rw [h45]; rfl
    have hv : Host.isL c = true := by unfold Host.isL; rw [h45]; rfl
    rw [hv]
    clear L hv
    go_enter Tryz.func34, Tryz.ntmps34
    go_wp2
    go_ret
    exact ⟨rfl, rfl⟩
  have q97 : ¬ (97 : UInt8) ≤ c := fun h => by have h2 : 97 ≤ n8 c := (L _ _).1 h; omega
  have q65 : ¬ (65 : UInt8) ≤ c := fun h => by have h2 : 65 ≤ n8 c := (L _ _).1 h; omega
  have q48 : ¬ (48 : UInt8) ≤ c := fun h => by have h2 : 48 ≤ n8 c := (L _ _).1 h; omega
  have q45 : (c == 45) = false := by rw [beq_eq_false_iff_ne]; exact h45
  have hv : Host.isL c = false := by unfold Host.isL; simp [h45]; omega
  rw [hv]
  clear L hv
  go_enter Tryz.func34, Tryz.ntmps34
  go_wp2
  go_ret
  exact ⟨rfl, rfl⟩
set_option maxHeartbeats 16000000 in
set_option maxRecDepth 100000 in
theorem labels_any (l : List UInt8) (w : World) : Calls Tryz.prog 11 #[.string (str l)] w fun e w' => e = .returned (.int .i64 ((Host.lab l : Nat) : Int)) ∧ w' = w := by
  obtain ⟨n, Hn⟩ : ∃ z, Hd (l.length = z) := ⟨_, ⟨rfl⟩⟩
  by_cases h0 : n < 1
  · have hz := hd (Host.lab_bad (l := l) (p := l) (by have h : l = [] := List.length_eq_zero_iff.1 (by rw [Hn.out]; omega)
                                                      rw [h]; simp [Host.parts, Host.st]) (fun h => by have := h.1; rw [Hn.out] at this; omega))
    have t0 : (n : Int) < 1 := by omega
    go_enter Tryz.func11, Tryz.ntmps11
    go_wp2_with (first | (with_reducible change wpList _ _ _ (⟨some 7, _, _, _, _, _⟩ :: _) _ _; refine wpl_run (o := ⟨some 7, _, _, _, _, _⟩) (by simp [Region.wanted, yielded, Act.put]) (.int .i64 ((n : Nat) : Int)) (Hn.out ▸ run_lenS (by rfl) Tryz.underlying9 l (by simp [Act.eval, Act.put])) ?_))
    go_ret
    exact ⟨by rw [hz.out]; rfl, rfl⟩
  have t0 : ¬ (n : Int) < 1 := by omega
  by_cases h253 : 253 < n
  · have hz := hd (Host.lab_long (l := l) (by rw [Hn.out]; exact h253))
    have t1 : (253 : Int) < (n : Int) := by omega
    go_enter Tryz.func11, Tryz.ntmps11
    go_wp2_with (first | (with_reducible change wpList _ _ _ (⟨some 7, _, _, _, _, _⟩ :: _) _ _; refine wpl_run (o := ⟨some 7, _, _, _, _, _⟩) (by simp [Region.wanted, yielded, Act.put]) (.int .i64 ((n : Nat) : Int)) (Hn.out ▸ run_lenS (by rfl) Tryz.underlying9 l (by simp [Act.eval, Act.put])) ?_) | (with_reducible change wpList _ _ _ (⟨some 11, _, _, _, _, _⟩ :: _) _ _; refine wpl_run (o := ⟨some 11, _, _, _, _, _⟩) (by simp [Region.wanted, yielded, Act.put]) (.int .i64 ((n : Nat) : Int)) (Hn.out ▸ run_lenS (by rfl) Tryz.underlying9 l (by simp [Act.eval, Act.put])) ?_))
    go_ret
    exact ⟨by rw [hz.out]; rfl, rfl⟩
  have t253 : ¬ (253 : Int) < (n : Int) := by omega
  have hn253 : n ≤ 253 := by omega
  go_enter Tryz.func11, Tryz.ntmps11
  go_wp2_with (first | (with_reducible change wpList _ _ _ (⟨some 7, _, _, _, _, _⟩ :: _) _ _; refine wpl_run (o := ⟨some 7, _, _, _, _, _⟩) (by simp [Region.wanted, yielded, Act.put]) (.int .i64 ((n : Nat) : Int)) (Hn.out ▸ run_lenS (by rfl) Tryz.underlying9 l (by simp [Act.eval, Act.put])) ?_) | (with_reducible change wpList _ _ _ (⟨some 11, _, _, _, _, _⟩ :: _) _ _; refine wpl_run (o := ⟨some 11, _, _, _, _, _⟩) (by simp [Region.wanted, yielded, Act.put]) (.int .i64 ((n : Nat) : Int)) (Hn.out ▸ run_lenS (by rfl) Tryz.underlying9 l (by simp [Act.eval, Act.put])) ?_))
  clear t253 h253 h0 t0
  go_loopw [3, 4, 5] (fun s3 s4 s5 wr => wr = w ∧ ((∃ (k : Nat) (D : List (List UInt8)) (C : List UInt8), k ≤ n ∧ Host.st (l.take k) = (D, C) ∧ s3 = .int .i64 (D.length : Int) ∧ s4 = .int .i64 ((k - C.length : Nat) : Int) ∧ s5 = .int .i64 (k : Int) ∧ D.length ≤ k ∧ (∀ p ∈ D, Host.okL p) ∧ ∀ c ∈ C, Host.isL c = true) ∨
      (s5 = .int .i64 ((n : Int) + 1) ∧ s3 = .int .i64 ((Host.parts l).length : Int) ∧ ∃ q, s4 = .int .i64 q ∧ ∀ p ∈ Host.parts l, Host.okL p))) (fun _ _ s5 _ => n + 1 - (intOf s5).toNat)
  case atStart => exact ⟨rfl, .inl ⟨0, [], [], Nat.zero_le _, rfl, rfl, rfl, rfl, Nat.le_refl _, by simp, by simp⟩⟩
  case round =>
    obtain ⟨ew, hrel⟩ := hrel
    rw [ew]
    clear ew
    rcases hrel with ⟨k, D, C, hk, hst, rfl, rfl, rfl, hDk, hD, hC⟩ | ⟨rfl, rfl, q, rfl, hall⟩
    · obtain ⟨m, Hm⟩ : ∃ y, Hd (C.length = y) := ⟨_, ⟨rfl⟩⟩
      obtain ⟨dl, Hdl⟩ : ∃ y, Hd (D.length = y) := ⟨_, ⟨rfl⟩⟩
      have hat := Host.st_at l k (by rw [Hn.out]; exact hk)
      rw [hst] at hat
      dsimp only at hat
      have Hst := hd hst
      have hD' := hd hD
      have hCl := hd hC
      rw [Hm.out] at hat ⊢
      rw [Hdl.out] at hDk ⊢
      obtain ⟨f, Hf⟩ : ∃ y, Hd (k - m = y) := ⟨_, ⟨rfl⟩⟩
      rw [Hf.out] at hat ⊢
      have hmk : m ≤ k := hat.1
      have hfk : f + m = k := by have := Hf.out; omega
      have hCn := hd hat.2
      clear hst hD hC hat
      have tk : (k : Int) ≤ (n : Int) := by omega
      by_cases hlt : k < n
      · have tlt : (k : Int) < (n : Int) := by omega
        obtain ⟨x, Hx⟩ : ∃ y, Hd (nth l k = y) := ⟨_, ⟨rfl⟩⟩
        have hsn := hd (show Host.st (l.take (k + 1)) = Host.step (D, C) x by rw [take_next l k (by rw [Hn.out]; exact hlt), Host.st_snoc, Hst.out, Hx.out])
        by_cases h46 : x = 46
        · have q46 : (x != 46) = false := by rw [h46]; rfl
          have hCm := hd (show C ∈ Host.parts l by rw [Host.take_dot l k (by rw [Hn.out]; exact hlt) (by rw [Hx.out]; exact h46), Hst.out]; simp)
          have hsn2 := hd (show Host.st (l.take (k + 1)) = (D ++ [C], []) by rw [hsn.out]; unfold Host.step; rw [if_pos h46])
          clear h46
          have e1 : (k : Int) - (f : Int) = (m : Int) := by omega
          by_cases h1 : m < 1
          · have t1 : (m : Int) < 1 := by omega
            have hz := hd (Host.lab_bad hCm.out (fun h => by have := h.1; have := Hm.out; omega))
            clear h1
            go_wp2_with (first
              | (with_reducible change wpList _ _ _ (⟨some 27, _, _, _, _, _⟩ :: _) _ _; refine wpl_run (o := ⟨some 27, _, _, _, _, _⟩) (by simp [Region.wanted, yielded, Act.put]) (.int .u8 ((n8 x : Nat) : Int)) (Hx.out ▸ run_idxS (by rfl) Tryz.underlying9 l k (by simp [Act.eval, Act.put]) (by simp [Act.eval, Act.put]) (by rw [Hn.out]; omega)) ?_)
              | (with_reducible change wpList _ _ _ (⟨some 22, _, _, _, _, _⟩ :: _) _ _; refine wpl_run (o := ⟨some 22, _, _, _, _, _⟩) (by simp [Region.wanted, yielded, Act.put]) (.int .i64 ((n : Nat) : Int)) (Hn.out ▸ run_lenS (by rfl) Tryz.underlying9 l (by simp [Act.eval, Act.put])) ?_)
              | (with_reducible change wpList _ _ _ (⟨some 16, _, _, _, _, _⟩ :: _) _ _; refine wpl_run (o := ⟨some 16, _, _, _, _, _⟩) (by simp [Region.wanted, yielded, Act.put]) (.int .i64 ((n : Nat) : Int)) (Hn.out ▸ run_lenS (by rfl) Tryz.underlying9 l (by simp [Act.eval, Act.put])) ?_))
            go_ret
            exact ⟨by rw [hz.out]; rfl, rfl⟩
          have t1 : ¬ (m : Int) < 1 := by omega
          by_cases h2 : 63 < m
          · have t2 : (63 : Int) < (m : Int) := by omega
            have hz := hd (Host.lab_bad hCm.out (fun h => by have := h.2.1; have := Hm.out; omega))
            clear h2
            go_wp2_with (first
              | (with_reducible change wpList _ _ _ (⟨some 27, _, _, _, _, _⟩ :: _) _ _; refine wpl_run (o := ⟨some 27, _, _, _, _, _⟩) (by simp [Region.wanted, yielded, Act.put]) (.int .u8 ((n8 x : Nat) : Int)) (Hx.out ▸ run_idxS (by rfl) Tryz.underlying9 l k (by simp [Act.eval, Act.put]) (by simp [Act.eval, Act.put]) (by rw [Hn.out]; omega)) ?_)
              | (with_reducible change wpList _ _ _ (⟨some 22, _, _, _, _, _⟩ :: _) _ _; refine wpl_run (o := ⟨some 22, _, _, _, _, _⟩) (by simp [Region.wanted, yielded, Act.put]) (.int .i64 ((n : Nat) : Int)) (Hn.out ▸ run_lenS (by rfl) Tryz.underlying9 l (by simp [Act.eval, Act.put])) ?_)
              | (with_reducible change wpList _ _ _ (⟨some 16, _, _, _, _, _⟩ :: _) _ _; refine wpl_run (o := ⟨some 16, _, _, _, _, _⟩) (by simp [Region.wanted, yielded, Act.put]) (.int .i64 ((n : Nat) : Int)) (Hn.out ▸ run_lenS (by rfl) Tryz.underlying9 l (by simp [Act.eval, Act.put])) ?_))
            go_ret
            exact ⟨by rw [hz.out]; rfl, rfl⟩
          have t2 : ¬ (63 : Int) < (m : Int) := by omega
          obtain ⟨a, Ha0⟩ : ∃ y, Hd (nth C 0 = y) := ⟨_, ⟨rfl⟩⟩
          obtain ⟨z, Hz0⟩ : ∃ y, Hd (nth C (m - 1) = y) := ⟨_, ⟨rfl⟩⟩
          obtain ⟨kp, Hkp⟩ : ∃ y, Hd (y + 1 = k) := ⟨k - 1, ⟨by omega⟩⟩
          have ekp : (k : Int) - 1 = (kp : Int) := by have := Hkp.out; omega
          have hkp : kp < n := by have := Hkp.out; omega
          have Ha := hd (show nth l f = a by rw [← Ha0.out, ← hCn.out 0 (by omega), Nat.add_zero])
          have Hz := hd (show nth l kp = z by rw [← Hz0.out, ← hCn.out (m - 1) (by omega), show f + (m - 1) = kp by have := Hkp.out; omega])
          have hfn : f < n := by omega
          by_cases h3 : a = 45
          · have q3 : (a == 45) = true := by rw [h3]; rfl
            have hz := hd (Host.lab_bad hCm.out (fun h => by have h4 := h.2.2.1; rw [Ha0.out] at h4; exact h4 h3))
            clear h3
            go_wp2_with (first
              | (with_reducible change wpList _ _ _ (⟨some 55, _, _, _, _, _⟩ :: _) _ _; refine wpl_run (o := ⟨some 55, _, _, _, _, _⟩) (by simp [Region.wanted, yielded, Act.put]) (.int .u8 ((n8 z : Nat) : Int)) (Hz.out ▸ run_idxS (by rfl) Tryz.underlying9 l kp (by simp [Act.eval, Act.put]) (by simp [Act.eval, Act.put]) (by rw [Hn.out]; omega)) ?_)
              | (with_reducible change wpList _ _ _ (⟨some 48, _, _, _, _, _⟩ :: _) _ _; refine wpl_run (o := ⟨some 48, _, _, _, _, _⟩) (by simp [Region.wanted, yielded, Act.put]) (.int .u8 ((n8 a : Nat) : Int)) (Ha.out ▸ run_idxS (by rfl) Tryz.underlying9 l f (by simp [Act.eval, Act.put]) (by simp [Act.eval, Act.put]) (by rw [Hn.out]; omega)) ?_)
              | (with_reducible change wpList _ _ _ (⟨some 27, _, _, _, _, _⟩ :: _) _ _; refine wpl_run (o := ⟨some 27, _, _, _, _, _⟩) (by simp [Region.wanted, yielded, Act.put]) (.int .u8 ((n8 x : Nat) : Int)) (Hx.out ▸ run_idxS (by rfl) Tryz.underlying9 l k (by simp [Act.eval, Act.put]) (by simp [Act.eval, Act.put]) (by rw [Hn.out]; omega)) ?_)
              | (with_reducible change wpList _ _ _ (⟨some 22, _, _, _, _, _⟩ :: _) _ _; refine wpl_run (o := ⟨some 22, _, _, _, _, _⟩) (by simp [Region.wanted, yielded, Act.put]) (.int .i64 ((n : Nat) : Int)) (Hn.out ▸ run_lenS (by rfl) Tryz.underlying9 l (by simp [Act.eval, Act.put])) ?_)
              | (with_reducible change wpList _ _ _ (⟨some 16, _, _, _, _, _⟩ :: _) _ _; refine wpl_run (o := ⟨some 16, _, _, _, _, _⟩) (by simp [Region.wanted, yielded, Act.put]) (.int .i64 ((n : Nat) : Int)) (Hn.out ▸ run_lenS (by rfl) Tryz.underlying9 l (by simp [Act.eval, Act.put])) ?_))
            go_ret
            exact ⟨by rw [hz.out]; rfl, rfl⟩
          have q3 : (a == 45) = false := by rw [beq_eq_false_iff_ne]; exact h3
          by_cases h4 : z = 45
          · have q4 : (z == 45) = true := by rw [h4]; rfl
            have hz := hd (Host.lab_bad hCm.out (fun h => by have h5 := h.2.2.2.1; rw [Hm.out, Hz0.out] at h5; exact h5 h4))
            clear h3 h4
            go_wp2_with (first
              | (with_reducible change wpList _ _ _ (⟨some 55, _, _, _, _, _⟩ :: _) _ _; refine wpl_run (o := ⟨some 55, _, _, _, _, _⟩) (by simp [Region.wanted, yielded, Act.put]) (.int .u8 ((n8 z : Nat) : Int)) (Hz.out ▸ run_idxS (by rfl) Tryz.underlying9 l kp (by simp [Act.eval, Act.put]) (by simp [Act.eval, Act.put]) (by rw [Hn.out]; omega)) ?_)
              | (with_reducible change wpList _ _ _ (⟨some 48, _, _, _, _, _⟩ :: _) _ _; refine wpl_run (o := ⟨some 48, _, _, _, _, _⟩) (by simp [Region.wanted, yielded, Act.put]) (.int .u8 ((n8 a : Nat) : Int)) (Ha.out ▸ run_idxS (by rfl) Tryz.underlying9 l f (by simp [Act.eval, Act.put]) (by simp [Act.eval, Act.put]) (by rw [Hn.out]; omega)) ?_)
              | (with_reducible change wpList _ _ _ (⟨some 27, _, _, _, _, _⟩ :: _) _ _; refine wpl_run (o := ⟨some 27, _, _, _, _, _⟩) (by simp [Region.wanted, yielded, Act.put]) (.int .u8 ((n8 x : Nat) : Int)) (Hx.out ▸ run_idxS (by rfl) Tryz.underlying9 l k (by simp [Act.eval, Act.put]) (by simp [Act.eval, Act.put]) (by rw [Hn.out]; omega)) ?_)
              | (with_reducible change wpList _ _ _ (⟨some 22, _, _, _, _, _⟩ :: _) _ _; refine wpl_run (o := ⟨some 22, _, _, _, _, _⟩) (by simp [Region.wanted, yielded, Act.put]) (.int .i64 ((n : Nat) : Int)) (Hn.out ▸ run_lenS (by rfl) Tryz.underlying9 l (by simp [Act.eval, Act.put])) ?_)
              | (with_reducible change wpList _ _ _ (⟨some 16, _, _, _, _, _⟩ :: _) _ _; refine wpl_run (o := ⟨some 16, _, _, _, _, _⟩) (by simp [Region.wanted, yielded, Act.put]) (.int .i64 ((n : Nat) : Int)) (Hn.out ▸ run_lenS (by rfl) Tryz.underlying9 l (by simp [Act.eval, Act.put])) ?_))
            go_ret
            exact ⟨by rw [hz.out]; rfl, rfl⟩
          have q4 : (z == 45) = false := by rw [beq_eq_false_iff_ne]; exact h4
          have hok := hd (show Host.okL C from ⟨by rw [Hm.out]; omega, by rw [Hm.out]; omega, by rw [Ha0.out]; exact h3, by rw [Hm.out, Hz0.out]; exact h4, hCl.out⟩)
          clear h1 h2 h3 h4
          go_wp2_with (first
              | (with_reducible change wpList _ _ _ (⟨some 55, _, _, _, _, _⟩ :: _) _ _; refine wpl_run (o := ⟨some 55, _, _, _, _, _⟩) (by simp [Region.wanted, yielded, Act.put]) (.int .u8 ((n8 z : Nat) : Int)) (Hz.out ▸ run_idxS (by rfl) Tryz.underlying9 l kp (by simp [Act.eval, Act.put]) (by simp [Act.eval, Act.put]) (by rw [Hn.out]; omega)) ?_)
              | (with_reducible change wpList _ _ _ (⟨some 48, _, _, _, _, _⟩ :: _) _ _; refine wpl_run (o := ⟨some 48, _, _, _, _, _⟩) (by simp [Region.wanted, yielded, Act.put]) (.int .u8 ((n8 a : Nat) : Int)) (Ha.out ▸ run_idxS (by rfl) Tryz.underlying9 l f (by simp [Act.eval, Act.put]) (by simp [Act.eval, Act.put]) (by rw [Hn.out]; omega)) ?_)
              | (with_reducible change wpList _ _ _ (⟨some 27, _, _, _, _, _⟩ :: _) _ _; refine wpl_run (o := ⟨some 27, _, _, _, _, _⟩) (by simp [Region.wanted, yielded, Act.put]) (.int .u8 ((n8 x : Nat) : Int)) (Hx.out ▸ run_idxS (by rfl) Tryz.underlying9 l k (by simp [Act.eval, Act.put]) (by simp [Act.eval, Act.put]) (by rw [Hn.out]; omega)) ?_)
              | (with_reducible change wpList _ _ _ (⟨some 22, _, _, _, _, _⟩ :: _) _ _; refine wpl_run (o := ⟨some 22, _, _, _, _, _⟩) (by simp [Region.wanted, yielded, Act.put]) (.int .i64 ((n : Nat) : Int)) (Hn.out ▸ run_lenS (by rfl) Tryz.underlying9 l (by simp [Act.eval, Act.put])) ?_)
              | (with_reducible change wpList _ _ _ (⟨some 16, _, _, _, _, _⟩ :: _) _ _; refine wpl_run (o := ⟨some 16, _, _, _, _, _⟩) (by simp [Region.wanted, yielded, Act.put]) (.int .i64 ((n : Nat) : Int)) (Hn.out ▸ run_lenS (by rfl) Tryz.underlying9 l (by simp [Act.eval, Act.put])) ?_))
          go_roundw
          case rel => exact ⟨trivial, .inl ⟨k + 1, D ++ [C], [], by omega, hsn2.out, by rw [List.length_append, Hdl.out]; rfl, rfl, rfl, by rw [List.length_append, Hdl.out]; simp; omega, fun p hp => by rcases List.mem_append.1 hp with h | h; exact hD'.out p h; rw [List.mem_singleton.1 h]; exact hok.out, by simp⟩⟩
          case measure => simp [intOf] <;> omega
        · have q46 : (x != 46) = true := by simpa using h46
          have hsn2 := hd (show Host.st (l.take (k + 1)) = (D, C ++ [x]) by rw [hsn.out]; unfold Host.step; rw [if_neg h46])
          have HL := hd (letter_any x w)
          cases hx : Host.isL x
          · rw [hx] at HL
            have hz := hd (show Host.lab l = 0 by
              obtain ⟨p, hp, hxp⟩ := Host.mem_parts l x h46 (by rw [← Hx.out]; unfold nth; rw [List.getD_eq_getElem?_getD, List.getElem?_eq_getElem (by rw [Hn.out]; exact hlt)]; exact List.getElem_mem _)
              exact Host.lab_bad hp (fun h => by have h2 := h.2.2.2.2 x hxp; rw [hx] at h2; cases h2))
            clear h46 hx
            go_wp2_with (first
              | (go_at_call 34; refine HL.out.mono ?_; rintro e w5 ⟨rfl, e5⟩; rw [e5]; clear e5 w5)
              | (with_reducible change wpList _ _ _ (⟨some 32, _, _, _, _, _⟩ :: _) _ _; refine wpl_run (o := ⟨some 32, _, _, _, _, _⟩) (by simp [Region.wanted, yielded, Act.put]) (.int .u8 ((n8 x : Nat) : Int)) (Hx.out ▸ run_idxS (by rfl) Tryz.underlying9 l k (by simp [Act.eval, Act.put]) (by simp [Act.eval, Act.put]) (by rw [Hn.out]; omega)) ?_)
              | (with_reducible change wpList _ _ _ (⟨some 27, _, _, _, _, _⟩ :: _) _ _; refine wpl_run (o := ⟨some 27, _, _, _, _, _⟩) (by simp [Region.wanted, yielded, Act.put]) (.int .u8 ((n8 x : Nat) : Int)) (Hx.out ▸ run_idxS (by rfl) Tryz.underlying9 l k (by simp [Act.eval, Act.put]) (by simp [Act.eval, Act.put]) (by rw [Hn.out]; omega)) ?_)
              | (with_reducible change wpList _ _ _ (⟨some 22, _, _, _, _, _⟩ :: _) _ _; refine wpl_run (o := ⟨some 22, _, _, _, _, _⟩) (by simp [Region.wanted, yielded, Act.put]) (.int .i64 ((n : Nat) : Int)) (Hn.out ▸ run_lenS (by rfl) Tryz.underlying9 l (by simp [Act.eval, Act.put])) ?_)
              | (with_reducible change wpList _ _ _ (⟨some 16, _, _, _, _, _⟩ :: _) _ _; refine wpl_run (o := ⟨some 16, _, _, _, _, _⟩) (by simp [Region.wanted, yielded, Act.put]) (.int .i64 ((n : Nat) : Int)) (Hn.out ▸ run_lenS (by rfl) Tryz.underlying9 l (by simp [Act.eval, Act.put])) ?_))
            go_ret
            exact ⟨by rw [hz.out]; rfl, rfl⟩
          · rw [hx] at HL
            have Hxl := hd hx
            clear h46 hx
            go_wp2_with (first
              | (go_at_call 34; refine HL.out.mono ?_; rintro e w5 ⟨rfl, e5⟩; rw [e5]; clear e5 w5)
              | (with_reducible change wpList _ _ _ (⟨some 32, _, _, _, _, _⟩ :: _) _ _; refine wpl_run (o := ⟨some 32, _, _, _, _, _⟩) (by simp [Region.wanted, yielded, Act.put]) (.int .u8 ((n8 x : Nat) : Int)) (Hx.out ▸ run_idxS (by rfl) Tryz.underlying9 l k (by simp [Act.eval, Act.put]) (by simp [Act.eval, Act.put]) (by rw [Hn.out]; omega)) ?_)
              | (with_reducible change wpList _ _ _ (⟨some 27, _, _, _, _, _⟩ :: _) _ _; refine wpl_run (o := ⟨some 27, _, _, _, _, _⟩) (by simp [Region.wanted, yielded, Act.put]) (.int .u8 ((n8 x : Nat) : Int)) (Hx.out ▸ run_idxS (by rfl) Tryz.underlying9 l k (by simp [Act.eval, Act.put]) (by simp [Act.eval, Act.put]) (by rw [Hn.out]; omega)) ?_)
              | (with_reducible change wpList _ _ _ (⟨some 22, _, _, _, _, _⟩ :: _) _ _; refine wpl_run (o := ⟨some 22, _, _, _, _, _⟩) (by simp [Region.wanted, yielded, Act.put]) (.int .i64 ((n : Nat) : Int)) (Hn.out ▸ run_lenS (by rfl) Tryz.underlying9 l (by simp [Act.eval, Act.put])) ?_)
              | (with_reducible change wpList _ _ _ (⟨some 16, _, _, _, _, _⟩ :: _) _ _; refine wpl_run (o := ⟨some 16, _, _, _, _, _⟩) (by simp [Region.wanted, yielded, Act.put]) (.int .i64 ((n : Nat) : Int)) (Hn.out ▸ run_lenS (by rfl) Tryz.underlying9 l (by simp [Act.eval, Act.put])) ?_))
            go_roundw
            case rel => exact ⟨trivial, .inl ⟨k + 1, D, C ++ [x], by omega, hsn2.out, by rw [Hdl.out], congrArg (Value.int .i64) (by rw [List.length_append, Hm.out, List.length_singleton]; omega), rfl, by rw [Hdl.out]; omega, hD'.out, fun c hc => by rcases List.mem_append.1 hc with h | h; exact hCl.out c h; rw [List.mem_singleton.1 h]; exact Hxl.out⟩⟩
            case measure => simp [intOf] <;> omega
      · obtain rfl : k = n := by omega
        have tlt : ¬ (k : Int) < (k : Int) := by omega
        have hpl := hd (show Host.parts l = D ++ [C] by
          have h := Hst.out
          rw [List.take_of_length_le (by rw [Hn.out]; exact Nat.le_refl _)] at h
          unfold Host.parts
          rw [h])
        have hCm := hd (show C ∈ Host.parts l by rw [hpl.out]; simp)
        have e1 : (k : Int) - (f : Int) = (m : Int) := by omega
        by_cases h1 : m < 1
        · have t1 : (m : Int) < 1 := by omega
          have hz := hd (Host.lab_bad hCm.out (fun h => by have := h.1; have := Hm.out; omega))
          clear h1
          go_wp2_with (first
            | (with_reducible change wpList _ _ _ (⟨some 22, _, _, _, _, _⟩ :: _) _ _; refine wpl_run (o := ⟨some 22, _, _, _, _, _⟩) (by simp [Region.wanted, yielded, Act.put]) (.int .i64 ((k : Nat) : Int)) (Hn.out ▸ run_lenS (by rfl) Tryz.underlying9 l (by simp [Act.eval, Act.put])) ?_)
            | (with_reducible change wpList _ _ _ (⟨some 16, _, _, _, _, _⟩ :: _) _ _; refine wpl_run (o := ⟨some 16, _, _, _, _, _⟩) (by simp [Region.wanted, yielded, Act.put]) (.int .i64 ((k : Nat) : Int)) (Hn.out ▸ run_lenS (by rfl) Tryz.underlying9 l (by simp [Act.eval, Act.put])) ?_))
          go_ret
          exact ⟨by rw [hz.out]; rfl, rfl⟩
        have t1 : ¬ (m : Int) < 1 := by omega
        by_cases h2 : 63 < m
        · have t2 : (63 : Int) < (m : Int) := by omega
          have hz := hd (Host.lab_bad hCm.out (fun h => by have := h.2.1; have := Hm.out; omega))
          clear h2
          go_wp2_with (first
            | (with_reducible change wpList _ _ _ (⟨some 22, _, _, _, _, _⟩ :: _) _ _; refine wpl_run (o := ⟨some 22, _, _, _, _, _⟩) (by simp [Region.wanted, yielded, Act.put]) (.int .i64 ((k : Nat) : Int)) (Hn.out ▸ run_lenS (by rfl) Tryz.underlying9 l (by simp [Act.eval, Act.put])) ?_)
            | (with_reducible change wpList _ _ _ (⟨some 16, _, _, _, _, _⟩ :: _) _ _; refine wpl_run (o := ⟨some 16, _, _, _, _, _⟩) (by simp [Region.wanted, yielded, Act.put]) (.int .i64 ((k : Nat) : Int)) (Hn.out ▸ run_lenS (by rfl) Tryz.underlying9 l (by simp [Act.eval, Act.put])) ?_))
          go_ret
          exact ⟨by rw [hz.out]; rfl, rfl⟩
        have t2 : ¬ (63 : Int) < (m : Int) := by omega
        obtain ⟨a, Ha0⟩ : ∃ y, Hd (nth C 0 = y) := ⟨_, ⟨rfl⟩⟩
        obtain ⟨z, Hz0⟩ : ∃ y, Hd (nth C (m - 1) = y) := ⟨_, ⟨rfl⟩⟩
        obtain ⟨kp, Hkp⟩ : ∃ y, Hd (y + 1 = k) := ⟨k - 1, ⟨by omega⟩⟩
        have ekp : (k : Int) - 1 = (kp : Int) := by have := Hkp.out; omega
        have hkp : kp < k := by have := Hkp.out; omega
        have Ha := hd (show nth l f = a by rw [← Ha0.out, ← hCn.out 0 (by omega), Nat.add_zero])
        have Hz := hd (show nth l kp = z by rw [← Hz0.out, ← hCn.out (m - 1) (by omega), show f + (m - 1) = kp by have := Hkp.out; omega])
        have hfn : f < k := by omega
        by_cases h3 : a = 45
        · have q3 : (a == 45) = true := by rw [h3]; rfl
          have hz := hd (Host.lab_bad hCm.out (fun h => by have h4 := h.2.2.1; rw [Ha0.out] at h4; exact h4 h3))
          clear h3
          go_wp2_with (first
            | (with_reducible change wpList _ _ _ (⟨some 55, _, _, _, _, _⟩ :: _) _ _; refine wpl_run (o := ⟨some 55, _, _, _, _, _⟩) (by simp [Region.wanted, yielded, Act.put]) (.int .u8 ((n8 z : Nat) : Int)) (Hz.out ▸ run_idxS (by rfl) Tryz.underlying9 l kp (by simp [Act.eval, Act.put]) (by simp [Act.eval, Act.put]) (by rw [Hn.out]; omega)) ?_)
            | (with_reducible change wpList _ _ _ (⟨some 48, _, _, _, _, _⟩ :: _) _ _; refine wpl_run (o := ⟨some 48, _, _, _, _, _⟩) (by simp [Region.wanted, yielded, Act.put]) (.int .u8 ((n8 a : Nat) : Int)) (Ha.out ▸ run_idxS (by rfl) Tryz.underlying9 l f (by simp [Act.eval, Act.put]) (by simp [Act.eval, Act.put]) (by rw [Hn.out]; omega)) ?_)
            | (with_reducible change wpList _ _ _ (⟨some 22, _, _, _, _, _⟩ :: _) _ _; refine wpl_run (o := ⟨some 22, _, _, _, _, _⟩) (by simp [Region.wanted, yielded, Act.put]) (.int .i64 ((k : Nat) : Int)) (Hn.out ▸ run_lenS (by rfl) Tryz.underlying9 l (by simp [Act.eval, Act.put])) ?_)
            | (with_reducible change wpList _ _ _ (⟨some 16, _, _, _, _, _⟩ :: _) _ _; refine wpl_run (o := ⟨some 16, _, _, _, _, _⟩) (by simp [Region.wanted, yielded, Act.put]) (.int .i64 ((k : Nat) : Int)) (Hn.out ▸ run_lenS (by rfl) Tryz.underlying9 l (by simp [Act.eval, Act.put])) ?_))
          go_ret
          exact ⟨by rw [hz.out]; rfl, rfl⟩
        have q3 : (a == 45) = false := by rw [beq_eq_false_iff_ne]; exact h3
        by_cases h4 : z = 45
        · have q4 : (z == 45) = true := by rw [h4]; rfl
          have hz := hd (Host.lab_bad hCm.out (fun h => by have h5 := h.2.2.2.1; rw [Hm.out, Hz0.out] at h5; exact h5 h4))
          clear h3 h4
          go_wp2_with (first
            | (with_reducible change wpList _ _ _ (⟨some 55, _, _, _, _, _⟩ :: _) _ _; refine wpl_run (o := ⟨some 55, _, _, _, _, _⟩) (by simp [Region.wanted, yielded, Act.put]) (.int .u8 ((n8 z : Nat) : Int)) (Hz.out ▸ run_idxS (by rfl) Tryz.underlying9 l kp (by simp [Act.eval, Act.put]) (by simp [Act.eval, Act.put]) (by rw [Hn.out]; omega)) ?_)
            | (with_reducible change wpList _ _ _ (⟨some 48, _, _, _, _, _⟩ :: _) _ _; refine wpl_run (o := ⟨some 48, _, _, _, _, _⟩) (by simp [Region.wanted, yielded, Act.put]) (.int .u8 ((n8 a : Nat) : Int)) (Ha.out ▸ run_idxS (by rfl) Tryz.underlying9 l f (by simp [Act.eval, Act.put]) (by simp [Act.eval, Act.put]) (by rw [Hn.out]; omega)) ?_)
            | (with_reducible change wpList _ _ _ (⟨some 22, _, _, _, _, _⟩ :: _) _ _; refine wpl_run (o := ⟨some 22, _, _, _, _, _⟩) (by simp [Region.wanted, yielded, Act.put]) (.int .i64 ((k : Nat) : Int)) (Hn.out ▸ run_lenS (by rfl) Tryz.underlying9 l (by simp [Act.eval, Act.put])) ?_)
            | (with_reducible change wpList _ _ _ (⟨some 16, _, _, _, _, _⟩ :: _) _ _; refine wpl_run (o := ⟨some 16, _, _, _, _, _⟩) (by simp [Region.wanted, yielded, Act.put]) (.int .i64 ((k : Nat) : Int)) (Hn.out ▸ run_lenS (by rfl) Tryz.underlying9 l (by simp [Act.eval, Act.put])) ?_))
          go_ret
          exact ⟨by rw [hz.out]; rfl, rfl⟩
        have q4 : (z == 45) = false := by rw [beq_eq_false_iff_ne]; exact h4
        have hok := hd (show Host.okL C from ⟨by rw [Hm.out]; omega, by rw [Hm.out]; omega, by rw [Ha0.out]; exact h3, by rw [Hm.out, Hz0.out]; exact h4, hCl.out⟩)
        clear h1 h2 h3 h4
        go_wp2_with (first
            | (with_reducible change wpList _ _ _ (⟨some 55, _, _, _, _, _⟩ :: _) _ _; refine wpl_run (o := ⟨some 55, _, _, _, _, _⟩) (by simp [Region.wanted, yielded, Act.put]) (.int .u8 ((n8 z : Nat) : Int)) (Hz.out ▸ run_idxS (by rfl) Tryz.underlying9 l kp (by simp [Act.eval, Act.put]) (by simp [Act.eval, Act.put]) (by rw [Hn.out]; omega)) ?_)
            | (with_reducible change wpList _ _ _ (⟨some 48, _, _, _, _, _⟩ :: _) _ _; refine wpl_run (o := ⟨some 48, _, _, _, _, _⟩) (by simp [Region.wanted, yielded, Act.put]) (.int .u8 ((n8 a : Nat) : Int)) (Ha.out ▸ run_idxS (by rfl) Tryz.underlying9 l f (by simp [Act.eval, Act.put]) (by simp [Act.eval, Act.put]) (by rw [Hn.out]; omega)) ?_)
            | (with_reducible change wpList _ _ _ (⟨some 22, _, _, _, _, _⟩ :: _) _ _; refine wpl_run (o := ⟨some 22, _, _, _, _, _⟩) (by simp [Region.wanted, yielded, Act.put]) (.int .i64 ((k : Nat) : Int)) (Hn.out ▸ run_lenS (by rfl) Tryz.underlying9 l (by simp [Act.eval, Act.put])) ?_)
            | (with_reducible change wpList _ _ _ (⟨some 16, _, _, _, _, _⟩ :: _) _ _; refine wpl_run (o := ⟨some 16, _, _, _, _, _⟩) (by simp [Region.wanted, yielded, Act.put]) (.int .i64 ((k : Nat) : Int)) (Hn.out ▸ run_lenS (by rfl) Tryz.underlying9 l (by simp [Act.eval, Act.put])) ?_))
        go_roundw
        case rel => exact ⟨trivial, .inr ⟨rfl, by rw [hpl.out, List.length_append, Hdl.out]; rfl, _, rfl, fun p hp => by rw [hpl.out] at hp; rcases List.mem_append.1 hp with h | h; exact hD'.out p h; rw [List.mem_singleton.1 h]; exact hok.out⟩⟩
        case measure => simp [intOf] <;> omega
    · have tk : ¬ (n : Int) + 1 ≤ (n : Int) := by omega
      have hz := hd (show Host.lab l = (Host.parts l).length by unfold Host.lab; rw [if_pos ⟨by rw [Hn.out]; exact hn253, hall⟩])
      clear hall
      go_wp2_with (first | (with_reducible change wpList _ _ _ (⟨some 16, _, _, _, _, _⟩ :: _) _ _; refine wpl_run (o := ⟨some 16, _, _, _, _, _⟩) (by simp [Region.wanted, yielded, Act.put]) (.int .i64 ((n : Nat) : Int)) (Hn.out ▸ run_lenS (by rfl) Tryz.underlying9 l (by simp [Act.eval, Act.put])) ?_))
      go_ret
      exact ⟨by rw [hz.out]; rfl, rfl⟩
end Go.Proofs.YtncaplplkfihgaaGreatDoor
