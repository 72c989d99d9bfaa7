/-
  May a session be sealed: the program's may, the reference's May.
-/
import Derived.Test.YthigbggacgiamaaDoorJk
import Derived.Test.YthigbggacgiamaaDoorSuiteA
import Derived.Test.YthigbggacgiamaaDoorShaJ
import Derived.BigQuiet
import Derived.Deep.QuietTactic
set_option linter.unusedVariables false
set_option linter.unusedSimpArgs false
set_option maxRecDepth 100000
namespace Go.Proofs.YthigbggacgiamaaDoor
open Go.RowKit
namespace Tk
/-- A suite's hash; is the suite known; how long its secrets are. -/
def hash (su : UInt16) : Int := if su = 4865 then 1 else if su = 4867 then 1 else if su = 4866 then 2 else 0
def known (su : UInt16) : Bool := if su = 4865 then true else if su = 4867 then true else if su = 4866 then true else false
theorem n16_of {su : UInt16} {k : Nat} (h : su ≠ UInt16.ofNat k) (hk : k < 65536) : n16 su ≠ k := fun e => h (UInt16.toNat_inj.1 (by rw [UInt16.toNat_ofNat']; show n16 su = _; omega))
/-- May it be sealed? -/
def May (s : Ses) : Prop := known s.suite = true ∧ s.secret.length = Sha.size (hash s.suite) ∧ s.host.length ≤ 253 ∧ s.prot.length ≤ 255
instance (s : Ses) : Decidable (May s) := by unfold May; infer_instance
theorem size_known (su : UInt16) (h : known su = true) : 0 < Sha.size (hash su) ∧ Sha.size (hash su) ≤ 48 := by
  unfold known at h
  unfold hash
  split
  · decide
  · split
    · decide
    · split
      · decide
      · simp_all
theorem size_not (su : UInt16) (h : known su = false) : Sha.size (hash su) = 0 := by
  unfold known at h
  unfold hash
  split
  · simp_all
  · split
    · simp_all
    · split
      · simp_all
      · decide
end Tk
set_option maxHeartbeats 2000000 in
set_option maxRecDepth 100000 in
theorem Tk.Known_128 (w : World) : Calls Tryd.prog 23 #[.int .u16 4865] w fun e w' => e = .returned (.bool true) ∧ w = w' := by
  go_enter Tryd.func23, Tryd.ntmps23
  go_wp2_with (first | (go_at_call 31; refine (of_128 _).mono ?_; rintro e w1 ⟨rfl, rfl⟩; unfold Suite.l128))
  go_ret
  exact ⟨rfl, rfl⟩
set_option maxHeartbeats 2000000 in
set_option maxRecDepth 100000 in
theorem Tk.Known_256 (w : World) : Calls Tryd.prog 23 #[.int .u16 4866] w fun e w' => e = .returned (.bool true) ∧ w = w' := by
  go_enter Tryd.func23, Tryd.ntmps23
  go_wp2_with (first | (go_at_call 31; refine (of_256 _).mono ?_; rintro e w1 ⟨rfl, rfl⟩; unfold Suite.l256))
  go_ret
  exact ⟨rfl, rfl⟩
set_option maxHeartbeats 2000000 in
set_option maxRecDepth 100000 in
theorem Tk.Known_cha (w : World) : Calls Tryd.prog 23 #[.int .u16 4867] w fun e w' => e = .returned (.bool true) ∧ w = w' := by
  go_enter Tryd.func23, Tryd.ntmps23
  go_wp2_with (first | (go_at_call 31; refine (of_cha _).mono ?_; rintro e w1 ⟨rfl, rfl⟩; unfold Suite.lcha))
  go_ret
  exact ⟨rfl, rfl⟩
set_option maxHeartbeats 2000000 in
set_option maxRecDepth 100000 in
theorem Tk.Known_none (s : UInt16) (h1 : (s == 4865) = false) (h2 : (s == 4866) = false) (h3 : (s == 4867) = false) (w : World) : Calls Tryd.prog 23 #[.int .u16 ((n16 s : Nat) : Int)] w fun e w' => e = .returned (.bool false) ∧ w = w' := by
  go_enter Tryd.func23, Tryd.ntmps23
  go_wp2_with (first | (go_at_call 31; refine (suiteOf_none s h1 h2 h3 _).mono ?_; rintro e w1 ⟨rfl, rfl⟩))
  go_ret
  exact ⟨rfl, rfl⟩
theorem Tk.Known_any (s : UInt16) (w : World) : Calls Tryd.prog 23 #[.int .u16 ((n16 s : Nat) : Int)] w fun e w' => e = .returned (.bool (Tk.known s)) ∧ w = w' := by
  by_cases h1 : s = 4865
  · subst h1; exact Tk.Known_128 w
  · by_cases h3 : s = 4867
    · subst h3; exact Tk.Known_cha w
    · by_cases h2 : s = 4866
      · subst h2; exact Tk.Known_256 w
      · have e : Tk.known s = false := by unfold Tk.known; rw [if_neg h1, if_neg h3, if_neg h2]
        rw [e]
        exact Tk.Known_none s (by simpa using h1) (by simpa using h2) (by simpa using h3) w
set_option maxHeartbeats 2000000 in
set_option maxRecDepth 100000 in
theorem Tk.Hash_128 (w : World) : Calls Tryd.prog 24 #[.int .u16 4865] w fun e w' => e = .returned (.int .i64 1) ∧ w = w' := by
  go_enter Tryd.func24, Tryd.ntmps24
  go_wp2_with (first | (go_at_call 31; refine (of_128 _).mono ?_; rintro e w1 ⟨rfl, rfl⟩; unfold Suite.l128))
  go_ret
  exact ⟨rfl, rfl⟩
set_option maxHeartbeats 2000000 in
set_option maxRecDepth 100000 in
theorem Tk.Hash_256 (w : World) : Calls Tryd.prog 24 #[.int .u16 4866] w fun e w' => e = .returned (.int .i64 2) ∧ w = w' := by
  go_enter Tryd.func24, Tryd.ntmps24
  go_wp2_with (first | (go_at_call 31; refine (of_256 _).mono ?_; rintro e w1 ⟨rfl, rfl⟩; unfold Suite.l256))
  go_ret
  exact ⟨rfl, rfl⟩
set_option maxHeartbeats 2000000 in
set_option maxRecDepth 100000 in
theorem Tk.Hash_cha (w : World) : Calls Tryd.prog 24 #[.int .u16 4867] w fun e w' => e = .returned (.int .i64 1) ∧ w = w' := by
  go_enter Tryd.func24, Tryd.ntmps24
  go_wp2_with (first | (go_at_call 31; refine (of_cha _).mono ?_; rintro e w1 ⟨rfl, rfl⟩; unfold Suite.lcha))
  go_ret
  exact ⟨rfl, rfl⟩
set_option maxHeartbeats 2000000 in
set_option maxRecDepth 100000 in
theorem Tk.Hash_none (s : UInt16) (h1 : (s == 4865) = false) (h2 : (s == 4866) = false) (h3 : (s == 4867) = false) (w : World) : Calls Tryd.prog 24 #[.int .u16 ((n16 s : Nat) : Int)] w fun e w' => e = .returned (.int .i64 0) ∧ w = w' := by
  go_enter Tryd.func24, Tryd.ntmps24
  go_wp2_with (first | (go_at_call 31; refine (suiteOf_none s h1 h2 h3 _).mono ?_; rintro e w1 ⟨rfl, rfl⟩))
  go_ret
  exact ⟨rfl, rfl⟩
theorem Tk.Hash_any (s : UInt16) (w : World) : Calls Tryd.prog 24 #[.int .u16 ((n16 s : Nat) : Int)] w fun e w' => e = .returned (.int .i64 (Tk.hash s)) ∧ w = w' := by
  by_cases h1 : s = 4865
  · subst h1; exact Tk.Hash_128 w
  · by_cases h3 : s = 4867
    · subst h3; exact Tk.Hash_cha w
    · by_cases h2 : s = 4866
      · subst h2; exact Tk.Hash_256 w
      · have e : Tk.hash s = 0 := by unfold Tk.hash; rw [if_neg h1, if_neg h3, if_neg h2]
        rw [e]
        exact Tk.Hash_none s (by simpa using h1) (by simpa using h2) (by simpa using h3) w
set_option maxHeartbeats 2000000 in
set_option maxRecDepth 100000 in
theorem Tk.rHash_128 (w : World) : Calls Tryd.prog 17 #[.int .u16 4865] w fun e w' => e = .returned (.int .i64 1) ∧ w = w' := by
  go_enter Tryd.func17, Tryd.ntmps17
  go_wp2
  go_ret
  exact ⟨rfl, rfl⟩
set_option maxHeartbeats 2000000 in
set_option maxRecDepth 100000 in
theorem Tk.rHash_256 (w : World) : Calls Tryd.prog 17 #[.int .u16 4866] w fun e w' => e = .returned (.int .i64 2) ∧ w = w' := by
  go_enter Tryd.func17, Tryd.ntmps17
  go_wp2
  go_ret
  exact ⟨rfl, rfl⟩
set_option maxHeartbeats 2000000 in
set_option maxRecDepth 100000 in
theorem Tk.rHash_cha (w : World) : Calls Tryd.prog 17 #[.int .u16 4867] w fun e w' => e = .returned (.int .i64 1) ∧ w = w' := by
  go_enter Tryd.func17, Tryd.ntmps17
  go_wp2
  go_ret
  exact ⟨rfl, rfl⟩
set_option maxHeartbeats 2000000 in
set_option maxRecDepth 100000 in
theorem Tk.rHash_none (s : UInt16) (h1 : (s == 4865) = false) (h2 : (s == 4866) = false) (h3 : (s == 4867) = false) (w : World) : Calls Tryd.prog 17 #[.int .u16 ((n16 s : Nat) : Int)] w fun e w' => e = .returned (.int .i64 0) ∧ w = w' := by
  go_enter Tryd.func17, Tryd.ntmps17
  go_wp2
  go_ret
  exact ⟨rfl, rfl⟩
theorem Tk.rHash_any (s : UInt16) (w : World) : Calls Tryd.prog 17 #[.int .u16 ((n16 s : Nat) : Int)] w fun e w' => e = .returned (.int .i64 (Tk.hash s)) ∧ w = w' := by
  by_cases h1 : s = 4865
  · subst h1; exact Tk.rHash_128 w
  · by_cases h3 : s = 4867
    · subst h3; exact Tk.rHash_cha w
    · by_cases h2 : s = 4866
      · subst h2; exact Tk.rHash_256 w
      · have e : Tk.hash s = 0 := by unfold Tk.hash; rw [if_neg h1, if_neg h3, if_neg h2]
        rw [e]
        exact Tk.rHash_none s (by simpa using h1) (by simpa using h2) (by simpa using h3) w
set_option maxHeartbeats 4000000 in
set_option maxRecDepth 100000 in
theorem may_any (s : Tk.Ses) (A : Option Addr) (c : Nat) (w : World) : Calls Tryd.prog 11 #[Tk.ses A c s] w fun e w' => e = .returned (.bool (decide (Tk.May s))) ∧ Below w.heap.size w w' := by
  obtain ⟨su, se, ho, pr, ma, li, ad⟩ := s
  obtain ⟨kk, HK⟩ : ∃ x, Hd (Tk.known su = x) := ⟨_, ⟨rfl⟩⟩
  obtain ⟨hh, HH⟩ : ∃ x, Hd (Tk.hash su = x) := ⟨_, ⟨rfl⟩⟩
  obtain ⟨m, Hm⟩ : ∃ x, Hd (Sha.size hh = x) := ⟨_, ⟨rfl⟩⟩
  have Hz := hd (show (kk = true → 0 < m) ∧ (kk = false → m = 0) by
    rw [← Hm.out, ← HH.out, ← HK.out]; exact ⟨fun h => (Tk.size_known su h).1, fun h => Tk.size_not su h⟩)
  have Hmay := hd (show Tk.May ⟨su, se, ho, pr, ma, li, ad⟩ ↔ kk = true ∧ se.length = m ∧ ho.length ≤ 253 ∧ pr.length ≤ 255 by
    unfold Tk.May; dsimp only; rw [HK.out, HH.out, Hm.out])
  have hB := (Below.refl w.heap.size w).alloc (Nat.le_refl _) (.cells #[.int .u16 ((n16 su : Nat) : Int), .slice A se.length c, .string (str ho), .string (str pr), .int .u64 ((n64 ma : Nat) : Int), .int .u32 ((n32 li : Nat) : Int), .int .u32 ((n32 ad : Nat) : Int)] 34)
  have K1 : ∀ W, Calls Tryd.prog 23 #[.int .u16 ((n16 su : Nat) : Int)] W fun e w' => e = .returned (.bool kk) ∧ w' = W := fun W => (Tk.Known_any su W).mono (fun e w' h => ⟨by rw [h.1, HK.out], h.2.symm⟩)
  have K2 : ∀ W, Calls Tryd.prog 24 #[.int .u16 ((n16 su : Nat) : Int)] W fun e w' => e = .returned (.int .i64 hh) ∧ w' = W := fun W => (Tk.Hash_any su W).mono (fun e w' h => ⟨by rw [h.1, HH.out], h.2.symm⟩)
  have K3 : ∀ W, Calls Tryd.prog 20 #[.int .i64 hh] W fun e w' => e = .returned (.int .i64 (m : Int)) ∧ w' = W := fun W => (size_any hh W).mono (fun e w' h => ⟨by rw [h.1, Hm.out], h.2.symm⟩)
  have z1 := str_size ho
  have z2 := str_size pr
  unfold Tk.ses
  dsimp only
  cases kk with
  | false =>
    have hm0 : m = 0 := Hz.out.2 rfl
    subst hm0
    rw [show decide (Tk.May ⟨su, se, ho, pr, ma, li, ad⟩) = false from decide_eq_false (fun h => by have := (Hmay.out.1 h).1; cases this)]
    go_enter Tryd.func11, Tryd.ntmps11
    go_wp2
    go_quiet (first | (go_at_call 23; exact Calls.quiet_of_same (K1 _)) | (go_at_call 24; exact Calls.quiet_of_same (K2 _)) | (go_at_call 20; exact Calls.quiet_of_same (K3 _)))
    go_wp2
    go_ret
    exact ⟨rfl, below_drewN hB _⟩
  | true =>
    have hm0 : (0 : Int) < (m : Int) := by have := Hz.out.1 rfl; omega
    by_cases g1 : se.length = m
    · by_cases g2 : ho.length ≤ 253
      · by_cases g3 : pr.length ≤ 255
        · rw [show decide (Tk.May ⟨su, se, ho, pr, ma, li, ad⟩) = true from decide_eq_true (Hmay.out.2 ⟨rfl, g1, g2, g3⟩)]
          have b1 : ((se.length : Int) = (m : Int)) := by omega
          have b2 : ((ho.length : Int) ≤ 253) := by omega
          have b3 : ((pr.length : Int) ≤ 255) := by omega
          clear Hmay g1 g2 g3
          go_enter Tryd.func11, Tryd.ntmps11
          go_wp2
          go_quiet (first | (go_at_call 23; exact Calls.quiet_of_same (K1 _)) | (go_at_call 24; exact Calls.quiet_of_same (K2 _)) | (go_at_call 20; exact Calls.quiet_of_same (K3 _)))
          go_wp2
          go_ret
          exact ⟨rfl, below_drewN hB _⟩
        · rw [show decide (Tk.May ⟨su, se, ho, pr, ma, li, ad⟩) = false from decide_eq_false (fun h => g3 (Hmay.out.1 h).2.2.2)]
          have b1 : ((se.length : Int) = (m : Int)) := by omega
          have b2 : ((ho.length : Int) ≤ 253) := by omega
          have b3 : decide ((pr.length : Int) ≤ 255) = false := decide_eq_false (by omega)
          clear Hmay g1 g2 g3
          go_enter Tryd.func11, Tryd.ntmps11
          go_wp2
          go_quiet (first | (go_at_call 23; exact Calls.quiet_of_same (K1 _)) | (go_at_call 24; exact Calls.quiet_of_same (K2 _)) | (go_at_call 20; exact Calls.quiet_of_same (K3 _)))
          go_wp2
          go_ret
          exact ⟨rfl, below_drewN hB _⟩
      · rw [show decide (Tk.May ⟨su, se, ho, pr, ma, li, ad⟩) = false from decide_eq_false (fun h => g2 (Hmay.out.1 h).2.2.1)]
        have b1 : ((se.length : Int) = (m : Int)) := by omega
        have b2 : decide ((ho.length : Int) ≤ 253) = false := decide_eq_false (by omega)
        clear Hmay g1 g2
        go_enter Tryd.func11, Tryd.ntmps11
        go_wp2
        go_quiet (first | (go_at_call 23; exact Calls.quiet_of_same (K1 _)) | (go_at_call 24; exact Calls.quiet_of_same (K2 _)) | (go_at_call 20; exact Calls.quiet_of_same (K3 _)))
        go_wp2
        go_ret
        exact ⟨rfl, below_drewN hB _⟩
    · rw [show decide (Tk.May ⟨su, se, ho, pr, ma, li, ad⟩) = false from decide_eq_false (fun h => g1 (Hmay.out.1 h).2.1)]
      have b1 : decide ((se.length : Int) = (m : Int)) = false := decide_eq_false (by omega)
      have b2 : decide (se.length = m) = false := decide_eq_false g1
      have b3 : (se.length == m) = false := by simpa using g1
      have b4 : ((se.length : Int) == (m : Int)) = false := by simpa using (show ¬ ((se.length : Int) = (m : Int)) by omega)
      clear Hmay
      go_enter Tryd.func11, Tryd.ntmps11
      go_wp2
      go_quiet (first | (go_at_call 23; exact Calls.quiet_of_same (K1 _)) | (go_at_call 24; exact Calls.quiet_of_same (K2 _)) | (go_at_call 20; exact Calls.quiet_of_same (K3 _)))
      go_wp2
      go_ret
      exact ⟨rfl, below_drewN hB _⟩
set_option maxHeartbeats 4000000 in
set_option maxRecDepth 100000 in
theorem rmay_any (s : Tk.Ses) (A : Option Addr) (c : Nat) (w : World) : Calls Tryd.prog 6 #[Tk.ses A c s] w fun e w' => e = .returned (.bool (decide (Tk.May s))) ∧ Below w.heap.size w w' := by
  obtain ⟨su, se, ho, pr, ma, li, ad⟩ := s
  obtain ⟨kk, HK⟩ : ∃ x, Hd (Tk.known su = x) := ⟨_, ⟨rfl⟩⟩
  obtain ⟨hh, HH⟩ : ∃ x, Hd (Tk.hash su = x) := ⟨_, ⟨rfl⟩⟩
  obtain ⟨m, Hm⟩ : ∃ x, Hd (Sha.size hh = x) := ⟨_, ⟨rfl⟩⟩
  have Hz := hd (show (kk = true → 0 < m) ∧ (kk = false → m = 0) by
    rw [← Hm.out, ← HH.out, ← HK.out]; exact ⟨fun h => (Tk.size_known su h).1, fun h => Tk.size_not su h⟩)
  have Hmay := hd (show Tk.May ⟨su, se, ho, pr, ma, li, ad⟩ ↔ kk = true ∧ se.length = m ∧ ho.length ≤ 253 ∧ pr.length ≤ 255 by
    unfold Tk.May; dsimp only; rw [HK.out, HH.out, Hm.out])
  have hB := (Below.refl w.heap.size w).alloc (Nat.le_refl _) (.cells #[.int .u16 ((n16 su : Nat) : Int), .slice A se.length c, .string (str ho), .string (str pr), .int .u64 ((n64 ma : Nat) : Int), .int .u32 ((n32 li : Nat) : Int), .int .u32 ((n32 ad : Nat) : Int)] 34)
  have z1 := str_size ho
  have z2 := str_size pr
  unfold Tk.ses
  dsimp only
  cases kk with
  | false =>
    have hm0 : m = 0 := Hz.out.2 rfl
    subst hm0
    rw [show decide (Tk.May ⟨su, se, ho, pr, ma, li, ad⟩) = false from decide_eq_false (fun h => by have := (Hmay.out.1 h).1; cases this)]
    go_enter Tryd.func6, Tryd.ntmps6
    go_wp2_with (first | (go_at_call 17; refine (Tk.rHash_any su _).mono ?_; rintro e w1 ⟨rfl, rfl⟩; rw [HH.out]) | (go_at_call 16; refine (rsize_any hh _).mono ?_; rintro e w2 ⟨rfl, rfl⟩; rw [Hm.out]))
    go_ret
    first | exact ⟨rfl, hB⟩ | (refine ⟨?_, hB⟩; show _ = Ending.returned (.bool false); rw [← b3]; rfl)
  | true =>
    have hm0 : (0 : Int) < (m : Int) := by have := Hz.out.1 rfl; omega
    by_cases g1 : se.length = m
    · by_cases g2 : ho.length ≤ 253
      · by_cases g3 : pr.length ≤ 255
        · rw [show decide (Tk.May ⟨su, se, ho, pr, ma, li, ad⟩) = true from decide_eq_true (Hmay.out.2 ⟨rfl, g1, g2, g3⟩)]
          have b1 : ((se.length : Int) = (m : Int)) := by omega
          have b2 : ((ho.length : Int) ≤ 253) := by omega
          have b3 : ((pr.length : Int) ≤ 255) := by omega
          clear Hmay g1 g2 g3
          go_enter Tryd.func6, Tryd.ntmps6
          go_wp2_with (first | (go_at_call 17; refine (Tk.rHash_any su _).mono ?_; rintro e w1 ⟨rfl, rfl⟩; rw [HH.out]) | (go_at_call 16; refine (rsize_any hh _).mono ?_; rintro e w2 ⟨rfl, rfl⟩; rw [Hm.out]))
          go_ret
          first | exact ⟨rfl, hB⟩ | (refine ⟨?_, hB⟩; show _ = Ending.returned (.bool false); rw [← b3]; rfl)
        · rw [show decide (Tk.May ⟨su, se, ho, pr, ma, li, ad⟩) = false from decide_eq_false (fun h => g3 (Hmay.out.1 h).2.2.2)]
          have b1 : ((se.length : Int) = (m : Int)) := by omega
          have b2 : ((ho.length : Int) ≤ 253) := by omega
          have b3 : decide ((pr.length : Int) ≤ 255) = false := decide_eq_false (by omega)
          clear Hmay g1 g2 g3
          go_enter Tryd.func6, Tryd.ntmps6
          go_wp2_with (first | (go_at_call 17; refine (Tk.rHash_any su _).mono ?_; rintro e w1 ⟨rfl, rfl⟩; rw [HH.out]) | (go_at_call 16; refine (rsize_any hh _).mono ?_; rintro e w2 ⟨rfl, rfl⟩; rw [Hm.out]))
          go_ret
          first | exact ⟨rfl, hB⟩ | (refine ⟨?_, hB⟩; show _ = Ending.returned (.bool false); rw [← b3]; rfl)
      · rw [show decide (Tk.May ⟨su, se, ho, pr, ma, li, ad⟩) = false from decide_eq_false (fun h => g2 (Hmay.out.1 h).2.2.1)]
        have b1 : ((se.length : Int) = (m : Int)) := by omega
        have b2 : decide ((ho.length : Int) ≤ 253) = false := decide_eq_false (by omega)
        clear Hmay g1 g2
        go_enter Tryd.func6, Tryd.ntmps6
        go_wp2_with (first | (go_at_call 17; refine (Tk.rHash_any su _).mono ?_; rintro e w1 ⟨rfl, rfl⟩; rw [HH.out]) | (go_at_call 16; refine (rsize_any hh _).mono ?_; rintro e w2 ⟨rfl, rfl⟩; rw [Hm.out]))
        go_ret
        first | exact ⟨rfl, hB⟩ | (refine ⟨?_, hB⟩; show _ = Ending.returned (.bool false); rw [← b3]; rfl)
    · rw [show decide (Tk.May ⟨su, se, ho, pr, ma, li, ad⟩) = false from decide_eq_false (fun h => g1 (Hmay.out.1 h).2.1)]
      have b1 : decide ((se.length : Int) = (m : Int)) = false := decide_eq_false (by omega)
      have b2 : decide (se.length = m) = false := decide_eq_false g1
      have b3 : (se.length == m) = false := by simpa using g1
      have b4 : ((se.length : Int) == (m : Int)) = false := by simpa using (show ¬ ((se.length : Int) = (m : Int)) by omega)
      clear Hmay
      go_enter Tryd.func6, Tryd.ntmps6
      go_wp2_with (first | (go_at_call 17; refine (Tk.rHash_any su _).mono ?_; rintro e w1 ⟨rfl, rfl⟩; rw [HH.out]) | (go_at_call 16; refine (rsize_any hh _).mono ?_; rintro e w2 ⟨rfl, rfl⟩; rw [Hm.out]))
      go_ret
      first | exact ⟨rfl, hB⟩ | (refine ⟨?_, hB⟩; show _ = Ending.returned (.bool false); rw [← b3]; rfl)
end Go.Proofs.YthigbggacgiamaaDoor
