/-
  The walks of suite.Seal with a key of 16 bytes, and of layer 10's live question.
-/
import Derived.Test.YtbcboldepghgpaaSuiteB
import Derived.Test.YtbcboldepghgpaaGcmH
set_option linter.unusedVariables false
set_option linter.unusedSimpArgs false
set_option maxRecDepth 100000
namespace Go.Proofs.Ytbcboldepghgpaa
open Go.RowKit
set_option maxHeartbeats 2000000 in
set_option maxRecDepth 100000 in
theorem may_128 (A : Option Addr) (c : Nat) (w : World) : Calls Try.prog 27 #[.int .u16 4865, .slice A 16 c] w fun e w' => e = .returned (.tuple #[Suite.l128, .int .i64 0]) ∧ Below w.heap.size w w' := by
  go_enter Try.func27, Try.ntmps27
  go_wp2_with (first | rw [size128_at] | (go_at_call 135; refine (size128_any _ _).mono ?_; rintro e w2 ⟨rfl, hB⟩) | (go_at_call 46; refine (of_128 _).mono ?_; rintro e w1 ⟨rfl, rfl⟩; unfold Suite.l128))
  go_ret2
  exact ⟨rfl, hB⟩
theorem sealed128_at (v : Value) (w : World) : (method 290 108 v "drawbridge/suite.sealed").run Try.prog w = .ok (134, v) w := by kernel_rfl
set_option maxHeartbeats 2000000 in
set_option maxRecDepth 100000 in
theorem suiteSeal_128 (A : Option Addr) (c : Nat) (key nonce : List UInt8) (hn : nonce.length = 12) (D : Option Addr) (p q : Nat) (aside : List UInt8) (E : Option Addr) (m d : Nat) (text : List UInt8) (w : World) (hr : ReadsB w w.heap.size A 16 key)
    (ha : ReadsB w w.heap.size D p aside) (hpq : p ≤ q) (hp : p ≤ 140737488355328) (ht : ReadsB w w.heap.size E m text) (hm : m ≤ 140737488355312) :
    Calls Try.prog 9 #[.int .u16 4865, .slice A 16 c, .agg (arr nonce), .slice D p q, .slice E m d] w fun e w' => ∃ v, e = .returned (.tuple #[v, .int .i64 0]) ∧ OwnB w' w.heap.size v (Gcm.lock (Aes.keys key) nonce aside text) ∧ Below w.heap.size w w' := by
  have Hn := hd hn
  clear hn
  obtain ⟨L, HL⟩ : ∃ l, Hd (Gcm.lock (Aes.keys key) nonce aside text = l) := ⟨_, ⟨rfl⟩⟩
  rw [HL.out]
  have hB0 := (Below.refl w.heap.size w).alloc (Nat.le_refl _) (.cells (arr nonce) 25)
  have b0 : Blk (w.alloc (.cells (arr nonce) 25)) w.heap.size 25 (arr nonce) := Blk.nu rfl
  go_enter Try.func9, Try.ntmps9
  go_wp2_with fail
  refine (may_128 A c _).mono ?_
  rintro e w1 ⟨rfl, hB1⟩
  have b1 := b0.below hB1 b0.lt
  have hB2 := hB0.trans (hB1.mono hB0.size)
  unfold Suite.l128
  go_wp2_with (first | rw [sealed128_at] | (refine wpl_load_arr rfl 25 _ rfl _ rfl 12 ty12 nonce Hn.out b1.cells_arr ?_) | (go_at_call 134; refine (sealed128_any A c key nonce Hn.out D p q aside E m d text _ (hr.onward hB2) (ha.onward hB2) hpq hp (ht.onward hB2) hm).mono ?_; rintro e w3 ⟨v, rfl, own, hB3⟩; rw [HL.out] at own; have hB4 := hB2.trans (hB3.mono hB2.size); have hle := hB2.size))
  go_ret2
  exact ⟨v, rfl, own.lower hle, hB4⟩
set_option maxHeartbeats 2000000 in
set_option maxRecDepth 100000 in
theorem head10_any (w : World) :
    Calls Try.prog 8 #[] w fun e w' => e = .returned (.bool true) ∧ Below w.heap.size w w' := by
  obtain ⟨K, HK⟩ : ∃ K, Hd (List.replicate 16 (0 : UInt8) = K) := ⟨_, ⟨rfl⟩⟩
  obtain ⟨N, HN⟩ : ∃ K, Hd (List.replicate 12 (0 : UInt8) = K) := ⟨_, ⟨rfl⟩⟩
  have HNl := hd (show N.length = 12 by rw [← HN.out]; exact List.length_replicate)
  obtain ⟨ans, Hans⟩ : ∃ a, Hd (Gcm.headAnswer = a) := ⟨_, ⟨rfl⟩⟩
  have Hr := hd (show Gcm.lock (Aes.keys K) N [] [] = ans by rw [← HK.out, ← HN.out, ← Hans.out]; exact Gcm.head_right)
  have hb12 : Try.prog.built 25 [] = some (arr N) := by rw [← HN.out]; exact zero12
  have Hal := hd (show ans.length = 16 by rw [← Hans.out]; rfl)
  go_enter Try.func8, Try.ntmps8
  go_wp2_with (first | (refine wpl_makeB rfl _ _ rfl w.heap.size 16 rfl rfl (by omega) (Nat.le_refl _) ?_; intro w1 own1 gr1; rw [HK.out] at own1) | (refine wpl_build rfl 25 [] rfl [] rfl (arr N) hb12 ?_))
  have hr1 := own1.reads_any.2
  have hB1 := below_none (Below.refl w.heap.size w) gr1 (Nat.le_refl _)
  refine (suiteSeal_128 _ 16 K N HNl.out none 0 0 [] none 0 0 [] _ hr1 ⟨rfl, Reads.none_⟩ (Nat.le_refl _) (by omega) ⟨rfl, Reads.none_⟩ (by omega)).mono ?_
  rintro e w2 ⟨v, rfl, own2, hB2⟩
  rw [Hr.out] at own2
  obtain ⟨g, c2, e2, hg1, hg2, hcp⟩ := own2.form (by rw [Hal.out]; omega)
  subst e2
  have c0 := own2.cell 0 (by rw [Hal.out]; omega)
  have c15 := own2.cell 15 (by rw [Hal.out]; omega)
  rw [show nth ans 0 = 88 by rw [← Hans.out]; rfl] at c0
  rw [show nth ans 15 = 90 by rw [← Hans.out]; rfl] at c15
  rw [Hal.out]
  have hB3 := hB1.trans (hB2.mono hB1.size)
  clear own1 gr1 hr1 hB1 own2 hB2
  go_wp2_with (go_at_call 26; refine (KeyLen_256 _).mono ?_; rintro e w4 ⟨rfl, hB4⟩)
  go_ret
  exact ⟨rfl, hB3.trans (hB4.mono hB3.size)⟩
end Go.Proofs.Ytbcboldepghgpaa
