/-
  The walks of the reference's hash of Galois counter mode.
-/
import Derived.Test.YtbcboldepghgpaaRefGb
import Derived.Test.YtbcboldepghgpaaRefGc
import Derived.Test.YtbcboldepghgpaaJa
import Derived.Test.YtbcboldepghgpaaGcmF
set_option linter.unusedVariables false
set_option linter.unusedSimpArgs false
set_option maxRecDepth 100000
namespace Go.Proofs.Ytbcboldepghgpaa
open Go.RowKit
set_option maxHeartbeats 2000000 in
set_option maxRecDepth 100000 in
theorem full_any (A : Option Addr) (n c : Nat) (b : List UInt8) (w : World) (hr : ReadsB w w.heap.size A n b) (hn : n ≤ 140737488000000) :
    Calls Try.prog 84 #[.slice A n c] w fun e w' => ∃ v, e = .returned v ∧ OwnB w' w.heap.size v (Gcm.padded b) ∧ Below w.heap.size w w' := by
  have Hbl := hd hr.len
  obtain ⟨P, HP⟩ : ∃ P, Hd (Gcm.padLen n = P) := ⟨_, ⟨rfl⟩⟩
  have HP16 := hd (show P < 16 by rw [← HP.out]; exact Gcm.padLen_lt _)
  have HPz := hd (show (n + P) % 16 = 0 by rw [← HP.out]; exact Gcm.padLen_zero _)
  have HR := hd (show Gcm.padded b = b ++ List.replicate P 0 by rw [Gcm.padded, Hbl.out, HP.out])
  have own0 := OwnB.empty (w := w) (Nat.le_refl w.heap.size)
  have hr1 : ReadsB (w.alloc (.cells #[] 5)) w.heap.size A n b := ⟨hr.len, hr.is.alloc (Nat.le_refl _) _⟩
  have hcl : ([] : List UInt8).length + b.length ≤ 140737488355328 := by rw [Hbl.out]; simp; omega
  have hBs : w.heap.size ≤ (w.alloc (.cells #[] 5)).heap.size := by simp
  go_enter Try.func84, Try.ntmps84
  go_wp2_with (first | (at_builtin; refine wpl_appendB rfl _ _ rfl w.heap.size (.slice (some ⟨w.heap.size, 0, none⟩) 0 0) [] rfl own0 w.heap.size A n c b rfl hr1 hcl hBs ?_; intro v2 w2 own2 gr2 at2; rw [List.nil_append] at own2; have hB2 : Below w.heap.size w w2 := below_appended ((Below.refl _ _).alloc (Nat.le_refl _) (.cells #[] 5)) own0 gr2 (Nat.le_refl _) (by simp)))
  clear own0 hr1 hcl hBs gr2 at2
  go_loopw [3] (fun v wr => ∃ k : Nat, k ≤ P ∧ OwnB wr w.heap.size v (b ++ List.replicate k 0) ∧ Below w.heap.size w wr) (fun v _ => n + 16 - lenOf v)
  case atStart => exact ⟨0, by omega, by rw [List.replicate_zero, List.append_nil]; exact own2, hB2⟩
  case round =>
    clear own2 hB2
    obtain ⟨k, hk, own, hB⟩ := hrel
    obtain ⟨m, Hm⟩ : ∃ m, Hd (n + k = m) := ⟨_, ⟨rfl⟩⟩
    have hlen : (b ++ List.replicate k 0).length = m := by rw [List.length_append, List.length_replicate, Hbl.out, Hm.out]
    obtain ⟨A3, c3, e3⟩ := own.slice
    rw [hlen] at e3
    subst e3
    have Hlen := hd hlen
    clear hlen
    by_cases hlt : k < P
    · have hm : ¬ (m : Int) % 16 = 0 := by have := HPz.out; have := HP16.out; have := Hm.out; omega
      have hcl : (b ++ List.replicate k 0).length + [(0 : UInt8)].length ≤ 140737488355328 := by have := HP16.out; have := Hm.out; rw [Hlen.out]; simp; omega
      have own1 := own.alloc (.cells #[.int .u8 ((n8 0 : Nat) : Int)] 5)
      have hr1 := ReadsB.one wr 0
      have hB1 : w.heap.size ≤ (wr.alloc (.cells #[.int .u8 ((n8 0 : Nat) : Int)] 5)).heap.size := by have := hB.size; simp; omega
      go_wp2_with (first | (at_builtin; refine wpl_appendB rfl _ _ rfl w.heap.size (.slice A3 m c3) (b ++ List.replicate k 0) rfl own1 (wr.heap.size + 1) _ 1 1 [0] rfl hr1 hcl hB1 ?_; intro v3 w3 own3 gr3 at3; have hB3 : Below w.heap.size w w3 := below_appended (hB.alloc hB.size (.cells #[.int .u8 ((n8 0 : Nat) : Int)] 5)) (own.alloc (.cells #[.int .u8 ((n8 0 : Nat) : Int)] 5)) gr3 (Nat.le_refl _) hB1))
      clear own1 hr1 hB1 gr3 at3 own
      rw [List.append_assoc, ← List.replicate_succ'] at own3
      obtain ⟨A4, c4, e4⟩ := own3.slice
      subst e4
      go_roundw
      case rel => exact ⟨k + 1, by omega, own3, hB3⟩
      case measure => simp [lenOf]; have := Hm.out; have := Hbl.out; have := HP16.out; omega
    · have ek : k = P := by omega
      have hm : (m : Int) % 16 = 0 := by have := HPz.out; have := HP16.out; have := Hm.out; omega
      go_wp2
      go_ret
      exact ⟨_, rfl, by rw [HR.out, ← ek]; exact own, hB⟩
set_option maxHeartbeats 2000000 in
set_option maxRecDepth 100000 in
theorem length_any (A : Option Addr) (n c : Nat) (b : List UInt8) (w : World) (hl : b.length = n) :
    Calls Try.prog 85 #[.slice A n c] w fun e w' => ∃ v, e = .returned v ∧ OwnB w' w.heap.size v (Gcm.lenTo b 8) ∧ Below w.heap.size w w' := by
  obtain ⟨N, HN⟩ : ∃ x, Hd (Gcm.bits b = x) := ⟨_, ⟨rfl⟩⟩
  have hN2 : UInt64.ofNat n * 8 = N := by rw [← HN.out, Gcm.bits, hl]
  have w1 : IntKind.u64.wrap (n : Int) = ((n64 (UInt64.ofNat n) : Nat) : Int) := by rw [wrap_n64, BitVec.ofInt_natCast]; rfl
  clear hl
  go_enter Try.func85, Try.ntmps85
  go_wp2
  clear hN2 w1
  go_loopw [4, 5] (fun v i wr => ∃ k : Nat, k ≤ 8 ∧ i = .int .i64 (7 - (k : Int)) ∧ OwnB wr w.heap.size v (Gcm.lenTo b k) ∧ Below w.heap.size w wr) (fun _ i _ => (intOf i + 1).toNat)
  case atStart => exact ⟨0, by omega, rfl, OwnB.nil _ _, Below.refl _ _⟩
  case round =>
    obtain ⟨k, hk, rfl, own, hB⟩ := hrel
    obtain ⟨A3, c3, e3⟩ := own.slice
    rw [Gcm.lenTo_len] at e3
    subst e3
    by_cases hlt : k < 8
    · obtain ⟨j, Hj⟩ : ∃ j, Hd (7 - k = j) := ⟨_, ⟨rfl⟩⟩
      have hj : j < 8 := by rw [← Hj.out]; omega
      have ej : (7 : Int) - (k : Int) = (j : Int) := by have := Hj.out; omega
      rw [ej]
      have t0 : (0 : Int) ≤ (j : Int) := by omega
      obtain ⟨J, HJ⟩ : ∃ J, Hd (8 * j = J) := ⟨_, ⟨rfl⟩⟩
      have e8 : (8 : Int) * (j : Int) = (J : Int) := by have := HJ.out; omega
      have v1 : IntKind.i64.wrap (J : Int) = (J : Int) := IntWalk.i64_in _ (by have := HJ.out; omega)
      obtain ⟨x, Hx⟩ : ∃ x, Hd ((shr64 N J).toUInt8 = x) := ⟨_, ⟨rfl⟩⟩
      have Hnx := hd (show Gcm.lenTo b (k + 1) = Gcm.lenTo b k ++ [x] by rw [Gcm.lenTo, HN.out, Hj.out, HJ.out, Hx.out])
      have hcl : (Gcm.lenTo b k).length + [x].length ≤ 140737488355328 := by rw [Gcm.lenTo_len]; simp; omega
      have own1 := own.alloc (.cells #[.int .u8 ((n8 x : Nat) : Int)] 5)
      have hr1 := ReadsB.one wr x
      have hB1 : w.heap.size ≤ (wr.alloc (.cells #[.int .u8 ((n8 x : Nat) : Int)] 5)).heap.size := by have := hB.size; simp; omega
      go_wp2_with (first | rw [Hx.out] | (at_builtin; refine wpl_appendB rfl _ _ rfl w.heap.size (.slice A3 k c3) (Gcm.lenTo b k) rfl own1 (wr.heap.size + 1) _ 1 1 [x] rfl hr1 hcl hB1 ?_; intro v3 w3 own3 gr3 at3; have hB3 : Below w.heap.size w w3 := below_appended (hB.alloc hB.size (.cells #[.int .u8 ((n8 x : Nat) : Int)] 5)) (own.alloc (.cells #[.int .u8 ((n8 x : Nat) : Int)] 5)) gr3 (Nat.le_refl _) hB1))
      clear own1 hr1 hB1 gr3 at3 own
      rw [← Hnx.out] at own3
      go_roundw
      case rel => exact ⟨k + 1, by omega, by go_num, own3, hB3⟩
      case measure => simp [intOf] <;> omega
    · have ek : k = 8 := by omega
      subst ek
      have ej : (7 : Int) - ((8 : Nat) : Int) = -1 := by omega
      rw [ej]
      go_wp2
      go_ret
      exact ⟨_, rfl, own, hB⟩
end Go.Proofs.Ytbcboldepghgpaa
