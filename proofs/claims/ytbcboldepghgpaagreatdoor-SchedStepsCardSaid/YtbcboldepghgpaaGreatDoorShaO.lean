/-
  The reference's sum, of any hash.
-/
import Derived.Test.YtbcboldepghgpaaGreatDoorShaN
set_option linter.unusedVariables false
set_option linter.unusedSimpArgs false
set_option maxRecDepth 100000
namespace Go.Proofs.YtbcboldepghgpaaGreatDoor
open Go.RowKit
theorem built_iv2 : Tryz.prog.built 68 [(0, .int .u64 14680500436340154072), (1, .int .u64 7105036623409894663), (2, .int .u64 10473403895298186519), (3, .int .u64 1526699215303891257), (4, .int .u64 7436329637833083697), (5, .int .u64 10282925794625328401), (6, .int .u64 15784041429090275239), (7, .int .u64 5167115440072839076)] = some (arr64 Sha.iv2) := by kernel_rfl
theorem rof_2 (A : Option Addr) (n c : Nat) (b : List UInt8) (w : World) (hr : ReadsB w w.heap.size A n b) (hn : n ≤ 140737488354000) :
    Calls Tryz.prog 42 #[.int .i64 2, .slice A n c] w fun e w' => ∃ v, e = .returned v ∧ OwnB w' w.heap.size v (Sha.sum 2 b) ∧ Below w.heap.size w w' := by
  obtain ⟨S, HS⟩ : ∃ x, Hd (Sha.out64 (Sha64.feed ((b ++ Sha.endOf 128 b).length / 128) (b ++ Sha.endOf 128 b) Sha.iv2) 8 = x) := ⟨_, ⟨rfl⟩⟩
  have HSl := hd (show S.length = 64 by rw [← HS.out, Sha.out64_len])
  have HSs := hd (show Sha.sum 2 b = S.take 48 by rw [← HS.out]; rfl)
  go_enter Tryz.func42, Tryz.ntmps42
  go_wp2_with (first | (refine wpl_build rfl 68 _ rfl [(0, .int .u64 14680500436340154072), (1, .int .u64 7105036623409894663), (2, .int .u64 10473403895298186519), (3, .int .u64 1526699215303891257), (4, .int .u64 7436329637833083697), (5, .int .u64 10282925794625328401), (6, .int .u64 15784041429090275239), (7, .int .u64 5167115440072839076)] rfl _ built_iv2 ?_) | (go_at_call 53; refine (rsum64_any Sha.iv2 rfl A n c b w hr hn).mono ?_; rintro e w1 ⟨v1, rfl, own1, hB1⟩; rw [HS.out] at own1; obtain ⟨A1, c1, e1⟩ := own1.slice; rw [HSl.out] at e1; subst e1; have hroom := own1.room; have hcap : (48 : Int) ≤ (c1 : Int) := by omega))
  go_ret
  exact ⟨_, rfl, by rw [HSs.out]; exact own1.cut (k := 48) (by omega), hB1⟩
theorem built_iv3 : Tryz.prog.built 68 [(0, .int .u64 7640891576956012808), (1, .int .u64 13503953896175478587), (2, .int .u64 4354685564936845355), (3, .int .u64 11912009170470909681), (4, .int .u64 5840696475078001361), (5, .int .u64 11170449401992604703), (6, .int .u64 2270897969802886507), (7, .int .u64 6620516959819538809)] = some (arr64 Sha.iv3) := by kernel_rfl
theorem rof_3 (A : Option Addr) (n c : Nat) (b : List UInt8) (w : World) (hr : ReadsB w w.heap.size A n b) (hn : n ≤ 140737488354000) :
    Calls Tryz.prog 42 #[.int .i64 3, .slice A n c] w fun e w' => ∃ v, e = .returned v ∧ OwnB w' w.heap.size v (Sha.sum 3 b) ∧ Below w.heap.size w w' := by
  obtain ⟨S, HS⟩ : ∃ x, Hd (Sha.out64 (Sha64.feed ((b ++ Sha.endOf 128 b).length / 128) (b ++ Sha.endOf 128 b) Sha.iv3) 8 = x) := ⟨_, ⟨rfl⟩⟩
  have HSl := hd (show S.length = 64 by rw [← HS.out, Sha.out64_len])
  have HSs := hd (show Sha.sum 3 b = S by rw [← HS.out]; rfl)
  go_enter Tryz.func42, Tryz.ntmps42
  go_wp2_with (first | (refine wpl_build rfl 68 _ rfl [(0, .int .u64 7640891576956012808), (1, .int .u64 13503953896175478587), (2, .int .u64 4354685564936845355), (3, .int .u64 11912009170470909681), (4, .int .u64 5840696475078001361), (5, .int .u64 11170449401992604703), (6, .int .u64 2270897969802886507), (7, .int .u64 6620516959819538809)] rfl _ built_iv3 ?_) | (go_at_call 53; refine (rsum64_any Sha.iv3 rfl A n c b w hr hn).mono ?_; rintro e w1 ⟨v1, rfl, own1, hB1⟩; rw [HS.out] at own1; obtain ⟨A1, c1, e1⟩ := own1.slice; rw [HSl.out] at e1; subst e1; have hroom := own1.room; have hcap : (48 : Int) ≤ (c1 : Int) := by omega))
  go_ret
  exact ⟨_, rfl, by rw [HSs.out]; exact own1, hB1⟩
theorem rof_1 (A : Option Addr) (n c : Nat) (b : List UInt8) (w : World) (hr : ReadsB w w.heap.size A n b) (hn : n ≤ 140737488354000) :
    Calls Tryz.prog 42 #[.int .i64 1, .slice A n c] w fun e w' => ∃ v, e = .returned v ∧ OwnB w' w.heap.size v (Sha.sum 1 b) ∧ Below w.heap.size w w' := by
  obtain ⟨S, HS⟩ : ∃ x, Hd (Sha.sum 1 b = x) := ⟨_, ⟨rfl⟩⟩
  go_enter Tryz.func42, Tryz.ntmps42
  go_wp2_with (first | (go_at_call 52; refine (rsum32_any A n c b w hr hn).mono ?_; rintro e w1 ⟨v1, rfl, own1, hB1⟩))
  go_ret
  exact ⟨_, rfl, own1, hB1⟩
theorem rof_none (h : Int) (h1 : ¬ h = 1) (h2 : ¬ h = 2) (h3 : ¬ h = 3) (v : Value) (w : World) : Calls Tryz.prog 42 #[.int .i64 h, v] w fun e w' => e = .returned (.slice none 0 0) ∧ w = w' := by
  go_enter Tryz.func42, Tryz.ntmps42
  go_wp2
  go_ret
  exact ⟨rfl, rfl⟩
/-- ref05.Of, of any hash. -/
theorem rof_any (h : Int) (A : Option Addr) (n c : Nat) (b : List UInt8) (w : World) (hr : ReadsB w w.heap.size A n b) (hn : n ≤ 140737488354000) :
    Calls Tryz.prog 42 #[.int .i64 h, .slice A n c] w fun e w' => ∃ v, e = .returned v ∧ OwnB w' w.heap.size v (Sha.sum h b) ∧ Below w.heap.size w w' := by
  by_cases h1 : h = 1
  · subst h1; exact rof_1 A n c b w hr hn
  · by_cases h2 : h = 2
    · subst h2; exact rof_2 A n c b w hr hn
    · by_cases h3 : h = 3
      · subst h3; exact rof_3 A n c b w hr hn
      · refine (rof_none h h1 h2 h3 _ w).mono ?_
        rintro e w' ⟨rfl, rfl⟩
        exact ⟨_, rfl, by rw [Sha.sum_none h1 h2 h3]; exact OwnB.nil _ _, Below.refl _ _⟩
end Go.Proofs.YtbcboldepghgpaaGreatDoor
