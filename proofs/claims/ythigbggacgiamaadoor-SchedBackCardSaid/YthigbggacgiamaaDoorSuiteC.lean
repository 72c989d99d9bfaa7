/-
  The walks of suite.Seal with a key of 16 bytes, and of layer 10's live question.
-/
import Derived.Test.YthigbggacgiamaaDoorSuiteB
import Derived.Test.YthigbggacgiamaaDoorGcmH
set_option linter.unusedVariables false
set_option linter.unusedSimpArgs false
set_option maxRecDepth 100000
namespace Go.Proofs.YthigbggacgiamaaDoor
open Go.RowKit
set_option maxHeartbeats 2000000 in
set_option maxRecDepth 100000 in
theorem may_128 (A : Option Addr) (c : Nat) (w : World) : Calls Tryd.prog 25 #[.int .u16 4865, .slice A 16 c] w fun e w' => e = .returned (.tuple #[Suite.l128, .int .i64 0]) ∧ Below w.heap.size w w' := by
  go_enter Tryd.func25, Tryd.ntmps25
  go_wp2_with (first | rw [size128_at] | (go_at_call 107; refine (size128_any _ _).mono ?_; rintro e w2 ⟨rfl, hB⟩) | (go_at_call 31; refine (of_128 _).mono ?_; rintro e w1 ⟨rfl, rfl⟩; unfold Suite.l128))
  go_ret2
  exact ⟨rfl, hB⟩
theorem sealed128_at (v : Value) (w : World) : (method 279 91 v "drawbridge/suite.sealed").run Tryd.prog w = .ok (106, v) w := by kernel_rfl
set_option maxHeartbeats 2000000 in
set_option maxRecDepth 100000 in
theorem suiteSeal_128 (A : Option Addr) (c : Nat) (key nonce : List UInt8) (hn : nonce.length = 12) (D : Option Addr) (p q : Nat) (aside : List UInt8) (E : Option Addr) (m d : Nat) (text : List UInt8) (w : World) (hr : ReadsB w w.heap.size A 16 key)
    (ha : ReadsB w w.heap.size D p aside) (hpq : p ≤ q) (hp : p ≤ 140737488355328) (ht : ReadsB w w.heap.size E m text) (hm : m ≤ 140737488355312) :
    Calls Tryd.prog 14 #[.int .u16 4865, .slice A 16 c, .agg (arr nonce), .slice D p q, .slice E m d] w fun e w' => ∃ v, e = .returned (.tuple #[v, .int .i64 0]) ∧ OwnB w' w.heap.size v (Gcm.lock (Aes.keys key) nonce aside text) ∧ Below w.heap.size w w' := by
  have Hn := hd hn
  clear hn
  obtain ⟨L, HL⟩ : ∃ l, Hd (Gcm.lock (Aes.keys key) nonce aside text = l) := ⟨_, ⟨rfl⟩⟩
  rw [HL.out]
  have hB0 := (Below.refl w.heap.size w).alloc (Nat.le_refl _) (.cells (arr nonce) 27)
  have b0 : Blk (w.alloc (.cells (arr nonce) 27)) w.heap.size 27 (arr nonce) := Blk.nu rfl
  go_enter Tryd.func14, Tryd.ntmps14
  go_wp2_with fail
  refine (may_128 A c _).mono ?_
  rintro e w1 ⟨rfl, hB1⟩
  have b1 := b0.below hB1 b0.lt
  have hB2 := hB0.trans (hB1.mono hB0.size)
  unfold Suite.l128
  go_wp2_with (first | rw [sealed128_at] | (refine wpl_load_arr rfl 27 _ rfl _ rfl 12 ty12 nonce Hn.out b1.cells_arr ?_) | (go_at_call 106; refine (sealed128_any A c key nonce Hn.out D p q aside E m d text _ (hr.onward hB2) (ha.onward hB2) hpq hp (ht.onward hB2) hm).mono ?_; rintro e w3 ⟨v, rfl, own, hB3⟩; rw [HL.out] at own; have hB4 := hB2.trans (hB3.mono hB2.size); have hle := hB2.size))
  go_ret2
  exact ⟨v, rfl, own.lower hle, hB4⟩
end Go.Proofs.YthigbggacgiamaaDoor
