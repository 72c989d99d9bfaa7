/-
  The walks of the reference's small functions of layer 5.
-/
import Derived.Test.YtbcboldepghgpaaGreatDoorShaG
set_option linter.unusedVariables false
set_option linter.unusedSimpArgs false
set_option maxRecDepth 100000
namespace Go.Proofs.YtbcboldepghgpaaGreatDoor
open Go.RowKit
namespace Sha
/-- How many noughts stand behind the 128, up to where the number of bits begins. -/
def padK (bs n : Nat) : Nat := (2 * bs - bs / 8 - 1 - n % bs) % bs
/-- What stands behind the bytes. -/
def endOf (bs : Nat) (l : List UInt8) : List UInt8 := 128 :: (List.replicate (padK bs l.length + (bs / 8 - 8)) 0 ++ spreadTo (UInt64.ofNat l.length * 8) 8 8)
theorem endOf_len (bs : Nat) (l : List UInt8) : (endOf bs l).length = 1 + (padK bs l.length + (bs / 8 - 8)) + 8 := by
  rw [endOf, List.length_cons, List.length_append, List.length_replicate, spreadTo_len]; omega
theorem times8 (n : Nat) (hn : n ≤ 140737488354000) : (n : Int) * 8 = ((n64 (UInt64.ofNat n * 8) : Nat) : Int) := by
  show (n : Int) * 8 = ((UInt64.ofNat n * 8).toNat : Int)
  rw [UInt64.toNat_mul, UInt64.toNat_ofNat']
  simp
  omega
end Sha
set_option maxHeartbeats 2000000 in
set_option maxRecDepth 100000 in
theorem turn32_any (x : UInt32) (n : Nat) (hn : n ≤ 32) (w : World) :
    Calls Tryz.prog 71 #[.int .u32 ((n32 x : Nat) : Int), .int .i64 (n : Int)] w fun e w' => e = .returned (.int .u32 ((n32 (Sha32.rot x n) : Nat) : Int)) ∧ Below w.heap.size w w' := by
  have e1 : (32 : Int) - (n : Int) = ((32 - n : Nat) : Int) := by omega
  obtain ⟨m, Hm⟩ : ∃ m, Hd (32 - n = m) := ⟨_, ⟨rfl⟩⟩
  rw [Hm.out] at e1
  have v1 : IntKind.i64.wrap (m : Int) = (m : Int) := IntWalk.i64_in _ (by have := Hm.out; omega)
  have v2 : (0 : Int) ≤ (n : Int) := by omega
  have v3 : (0 : Int) ≤ (m : Int) := by omega
  have Hr := hd (show Sha32.rot x n = shr32 x n ||| shl32 x m by rw [Sha32.rot, Hm.out])
  go_enter Tryz.func71, Tryz.ntmps71
  go_wp2
  go_quiet (fail)
  go_wp2
  go_ret
  exact ⟨by rw [Hr.out]; rfl, below_drewN (Below.refl _ _) _⟩
set_option maxHeartbeats 2000000 in
set_option maxRecDepth 100000 in
theorem turn64_any (x : UInt64) (n : Nat) (hn : n ≤ 64) (w : World) :
    Calls Tryz.prog 72 #[.int .u64 ((n64 x : Nat) : Int), .int .i64 (n : Int)] w fun e w' => e = .returned (.int .u64 ((n64 (Sha64.rot x n) : Nat) : Int)) ∧ Below w.heap.size w w' := by
  have e1 : (64 : Int) - (n : Int) = ((64 - n : Nat) : Int) := by omega
  obtain ⟨m, Hm⟩ : ∃ m, Hd (64 - n = m) := ⟨_, ⟨rfl⟩⟩
  rw [Hm.out] at e1
  have v1 : IntKind.i64.wrap (m : Int) = (m : Int) := IntWalk.i64_in _ (by have := Hm.out; omega)
  have v2 : (0 : Int) ≤ (n : Int) := by omega
  have v3 : (0 : Int) ≤ (m : Int) := by omega
  have Hr := hd (show Sha64.rot x n = shr64 x n ||| shl64 x m by rw [Sha64.rot, Hm.out])
  go_enter Tryz.func72, Tryz.ntmps72
  go_wp2
  go_quiet (fail)
  go_wp2
  go_ret
  exact ⟨by rw [Hr.out]; rfl, below_drewN (Below.refl _ _) _⟩
theorem rsize_1 (w : World) : Calls Tryz.prog 40 #[.int .i64 1] w fun e w' => e = .returned (.int .i64 32) ∧ w = w' := by
  go_enter Tryz.func40, Tryz.ntmps40
  go_wp2
  go_ret
  exact ⟨rfl, rfl⟩
theorem rblockSize_1 (w : World) : Calls Tryz.prog 49 #[.int .i64 1] w fun e w' => e = .returned (.int .i64 64) ∧ w = w' := by
  go_enter Tryz.func49, Tryz.ntmps49
  go_wp2
  go_ret
  exact ⟨rfl, rfl⟩
theorem rsize_2 (w : World) : Calls Tryz.prog 40 #[.int .i64 2] w fun e w' => e = .returned (.int .i64 48) ∧ w = w' := by
  go_enter Tryz.func40, Tryz.ntmps40
  go_wp2
  go_ret
  exact ⟨rfl, rfl⟩
theorem rblockSize_2 (w : World) : Calls Tryz.prog 49 #[.int .i64 2] w fun e w' => e = .returned (.int .i64 128) ∧ w = w' := by
  go_enter Tryz.func49, Tryz.ntmps49
  go_wp2
  go_ret
  exact ⟨rfl, rfl⟩
theorem rsize_3 (w : World) : Calls Tryz.prog 40 #[.int .i64 3] w fun e w' => e = .returned (.int .i64 64) ∧ w = w' := by
  go_enter Tryz.func40, Tryz.ntmps40
  go_wp2
  go_ret
  exact ⟨rfl, rfl⟩
theorem rblockSize_3 (w : World) : Calls Tryz.prog 49 #[.int .i64 3] w fun e w' => e = .returned (.int .i64 128) ∧ w = w' := by
  go_enter Tryz.func49, Tryz.ntmps49
  go_wp2
  go_ret
  exact ⟨rfl, rfl⟩
theorem rsize_none (h : Int) (h1 : ¬ h = 1) (h2 : ¬ h = 2) (h3 : ¬ h = 3) (w : World) : Calls Tryz.prog 40 #[.int .i64 h] w fun e w' => e = .returned (.int .i64 0) ∧ w = w' := by
  go_enter Tryz.func40, Tryz.ntmps40
  go_wp2
  go_ret
  exact ⟨rfl, rfl⟩
theorem rblockSize_none (h : Int) (h1 : ¬ h = 1) (h2 : ¬ h = 2) (h3 : ¬ h = 3) (w : World) : Calls Tryz.prog 49 #[.int .i64 h] w fun e w' => e = .returned (.int .i64 0) ∧ w = w' := by
  go_enter Tryz.func49, Tryz.ntmps49
  go_wp2
  go_ret
  exact ⟨rfl, rfl⟩
set_option maxHeartbeats 4000000 in
set_option maxRecDepth 100000 in
theorem padded64_any (A : Option Addr) (n c : Nat) (b : List UInt8) (w : World) (hr : ReadsB w w.heap.size A n b) (hn : n ≤ 140737488354000) :
    Calls Tryz.prog 70 #[.slice A n c, .int .i64 64] w fun e w' => ∃ v, e = .returned v ∧ OwnB w' w.heap.size v (b ++ Sha.endOf 64 b) ∧ Below w.heap.size w w' := by
  have Hbl := hd hr.len
  obtain ⟨P, HP⟩ : ∃ P, Hd (Sha.padK 64 n = P) := ⟨_, ⟨rfl⟩⟩
  have HPl := hd (show P < 64 by rw [← HP.out]; exact Nat.mod_lt _ (by omega))
  have HPz := hd (show (n + 1 + P) % 64 = 56 by rw [← HP.out]; unfold Sha.padK; omega)
  have HPm := hd (show ∀ k, k < P → ¬ (n + 1 + k) % 64 = 56 from fun k hk => by have := HPz.out; have := HPl.out; omega)
  have own0 := OwnB.empty (w := w) (Nat.le_refl w.heap.size)
  have hr1 : ReadsB (w.alloc (.cells #[] 5)) w.heap.size A n b := ⟨hr.len, hr.is.alloc (Nat.le_refl _) _⟩
  have hcl : ([] : List UInt8).length + b.length ≤ 140737488355328 := by rw [Hbl.out]; simp; omega
  have hBs : w.heap.size ≤ (w.alloc (.cells #[] 5)).heap.size := by simp
  go_enter Tryz.func70, Tryz.ntmps70
  go_wp2_with (first | (at_builtin; have hx := own4; clear hx; refine wpl_appendB rfl _ _ rfl w.heap.size (.slice A2 n c2) b rfl own4 (w2.heap.size + 1) _ 1 1 [128] rfl (ReadsB.one w2 128) hcl4 hBs4 ?_; intro v5 w5 own5 gr5 at5; have hB5 : Below w.heap.size w w5 := below_appended hB4 own4 gr5 (Nat.le_refl _) hBs4) | (at_builtin; refine wpl_appendB rfl _ _ rfl w.heap.size (.slice (some ⟨w.heap.size, 0, none⟩) 0 0) [] rfl own0 w.heap.size A n c b rfl hr1 hcl hBs ?_; intro v2 w2 own2 gr2 at2; rw [List.nil_append] at own2; obtain ⟨A2, c2, e2⟩ := own2.slice; rw [Hbl.out] at e2; subst e2; have hB2 : Below w.heap.size w w2 := below_appended ((Below.refl _ _).alloc (Nat.le_refl _) (.cells #[] 5)) own0 gr2 (Nat.le_refl _) (by simp); have own4 := own2.alloc (.cells #[.int .u8 ((n8 128 : Nat) : Int)] 5); have hB4 := hB2.alloc hB2.size (.cells #[.int .u8 ((n8 128 : Nat) : Int)] 5); have hBs4 := hB4.size; have hcl4 : b.length + [(128 : UInt8)].length ≤ 140737488355328 := (by rw [Hbl.out]; simp; omega)))
  clear own0 hr1 hcl hBs gr2 at2 own2 hB2 own4 hB4 hBs4 hcl4 gr5 at5
  go_loopw [5] (fun v wr => ∃ k : Nat, k ≤ P ∧ OwnB wr w.heap.size v (b ++ [128] ++ List.replicate k 0) ∧ Below w.heap.size w wr) (fun v _ => n + 1 + 64 - lenOf3 v)
  case atStart => exact ⟨0, by omega, by rw [List.replicate_zero, List.append_nil]; exact own5, hB5⟩
  case round =>
    clear own5 hB5
    obtain ⟨k, hk, own, hB⟩ := hrel
    obtain ⟨m, Hm⟩ : ∃ m, Hd (n + 1 + k = m) := ⟨_, ⟨rfl⟩⟩
    have Hlen := hd (show (b ++ [128] ++ List.replicate k 0).length = m by rw [List.length_append, List.length_append, List.length_replicate, Hbl.out, ← Hm.out]; rfl)
    obtain ⟨A3, c3, e3⟩ := own.slice
    rw [Hlen.out] at e3
    subst e3
    have hmm := Hm.out
    have hPP := HPl.out
    by_cases hlt : k < P
    · have hm : ¬ (m : Int) % 64 = 56 := by have h := HPm.out k hlt; omega
      have hcl : (b ++ [128] ++ List.replicate k 0).length + [(0 : UInt8)].length ≤ 140737488355328 := by rw [Hlen.out]; simp; omega
      have own1 := own.alloc (.cells #[.int .u8 ((n8 0 : Nat) : Int)] 5)
      have hr1 := ReadsB.one wr 0
      have hBa := hB.alloc hB.size (.cells #[.int .u8 ((n8 0 : Nat) : Int)] 5)
      have hB1 : w.heap.size ≤ (wr.alloc (.cells #[.int .u8 ((n8 0 : Nat) : Int)] 5)).heap.size := hBa.size
      go_wp2_with (first | (at_builtin; refine wpl_appendB rfl _ _ rfl w.heap.size (.slice A3 m c3) (b ++ [128] ++ List.replicate k 0) rfl own1 (wr.heap.size + 1) _ 1 1 [0] rfl hr1 hcl hB1 ?_; intro v3 w3 own3 gr3 at3; have hB3 : Below w.heap.size w w3 := below_appended hBa own1 gr3 (Nat.le_refl _) hB1))
      clear own1 hr1 hB1 gr3 at3 own
      rw [List.append_assoc, ← List.replicate_succ'] at own3
      obtain ⟨A4, c4, e4⟩ := own3.slice
      subst e4
      go_roundw
      case rel => exact ⟨k + 1, by omega, own3, hB3⟩
      case measure => simp [lenOf3]; have := Hbl.out; omega
    · have ek : k = P := by omega
      subst ek
      have HPe := hd (show Sha.padK 64 n = k from HP.out)
      have hm : (m : Int) % 64 = 56 := by have := HPz.out; omega
      clear hk hlt
      have Hkq := hd (show k + (8 - 8) < 1000 by have := HPl.out; omega)
      go_wp2_with (fail)
      clear hm hmm hPP HPm HPz
      go_loopw [5, 6] (fun v i wr => ∃ j : Nat, j ≤ 0 ∧ i = .int .i64 ((8 + j : Nat) : Int) ∧ OwnB wr w.heap.size v (b ++ [128] ++ List.replicate (k + j) 0) ∧ Below w.heap.size w wr) (fun _ i _ => (8 - intOf i).toNat)
      case atStart => exact ⟨0, by omega, rfl, own, hB⟩
      case round =>
        clear own hB
        obtain ⟨j, hj, rfl, own, hB⟩ := hrel
        obtain ⟨m2, Hm2⟩ : ∃ m2, Hd (n + 1 + k + j = m2) := ⟨_, ⟨rfl⟩⟩
        obtain ⟨i2, Hi2⟩ : ∃ i2, Hd (8 + j = i2) := ⟨_, ⟨rfl⟩⟩
        have Hlen2 := hd (show (b ++ [128] ++ List.replicate (k + j) 0).length = m2 by rw [List.length_append, List.length_append, List.length_replicate, Hbl.out, ← Hm2.out]; simp; omega)
        obtain ⟨A5, c5, e5⟩ := own.slice
        rw [Hlen2.out] at e5
        subst e5
        rw [Hi2.out]
        · have ej : j = 0 := by omega
          have t1 : ¬ (i2 : Int) < 8 := by have := Hi2.out; omega
          clear Hkq
          subst ej
          go_wp2_with (fail)
          clear t1
          obtain ⟨X, HX⟩ : ∃ X, Hd (UInt64.ofNat n * 8 = X) := ⟨_, ⟨rfl⟩⟩
          have eX : (n : Int) * 8 = ((n64 X : Nat) : Int) := by rw [← HX.out]; exact Sha.times8 n hn
          rw [eX]
          obtain ⟨l2, Hl2⟩ : ∃ l2, Hd (b ++ [128] ++ List.replicate (k + 0) 0 = l2) := ⟨_, ⟨rfl⟩⟩
          rw [Hl2.out] at Hlen2 own
          have Hl3 := hd (show b ++ Sha.endOf 64 b = l2 ++ Sha.spreadTo X 8 8 by rw [← Hl2.out, Sha.endOf, Hbl.out, HPe.out, HX.out]; simp [List.append_assoc])
          have Hm3 := hd (show m2 ≤ 140737488354900 by rw [← Hm2.out]; have := HPl.out; omega)
          clear eX HX Hl2
          go_loopw [5, 8] (fun v i wr => ∃ z : Nat, z ≤ 8 ∧ i = .int .i64 ((7 : Int) - (z : Int)) ∧ OwnB wr w.heap.size v (l2 ++ Sha.spreadTo X 8 z) ∧ Below w.heap.size w wr) (fun _ i _ => (intOf i + 1).toNat)
          case atStart => exact ⟨0, by omega, rfl, by rw [Sha.spreadTo, List.append_nil]; exact own, hB⟩
          case round =>
            clear own hB
            obtain ⟨z, hz, rfl, own, hB⟩ := hrel
            obtain ⟨A3, c3, e3⟩ := own.slice
            obtain ⟨m, Hm⟩ : ∃ m, Hd ((l2 ++ Sha.spreadTo X 8 z).length = m) := ⟨_, ⟨rfl⟩⟩
            rw [Hm.out] at e3
            subst e3
            have Hmm := hd (show m = m2 + z by rw [← Hm.out, List.length_append, Sha.spreadTo_len, Hlen2.out])
            by_cases hlt : z < 8
            · obtain ⟨j, Hj⟩ : ∃ j, Hd (8 - 1 - z = j) := ⟨_, ⟨rfl⟩⟩
              have ej : (7 : Int) - (z : Int) = (j : Int) := by have := Hj.out; omega
              rw [ej]
              have t0 : (0 : Int) ≤ (j : Int) := by omega
              obtain ⟨J, HJ⟩ : ∃ J, Hd (8 * j = J) := ⟨_, ⟨rfl⟩⟩
              have e8 : (8 : Int) * (j : Int) = (J : Int) := by have := HJ.out; omega
              have w1 : IntKind.i64.wrap (J : Int) = (J : Int) := IntWalk.i64_in _ (by have := HJ.out; have := Hj.out; omega)
              obtain ⟨y, Hy⟩ : ∃ y, Hd ((shr64 X J).toUInt8 = y) := ⟨_, ⟨rfl⟩⟩
              have Hnx := hd (show l2 ++ Sha.spreadTo X 8 (z + 1) = (l2 ++ Sha.spreadTo X 8 z) ++ [y] by rw [Sha.spreadTo, Hj.out, HJ.out, Hy.out, List.append_assoc])
              have hcl : (l2 ++ Sha.spreadTo X 8 z).length + [y].length ≤ 140737488355328 := by rw [Hm.out, Hmm.out]; have := Hm3.out; simp; omega
              have own1 := own.alloc (.cells #[.int .u8 ((n8 y : Nat) : Int)] 5)
              have hr1 := ReadsB.one wr y
              have hBa := hB.alloc hB.size (.cells #[.int .u8 ((n8 y : Nat) : Int)] 5)
              have hB1 : w.heap.size ≤ (wr.alloc (.cells #[.int .u8 ((n8 y : Nat) : Int)] 5)).heap.size := hBa.size
              go_wp2_with (first | rw [Hy.out] | (at_builtin; refine wpl_appendB rfl _ _ rfl w.heap.size (.slice A3 m c3) (l2 ++ Sha.spreadTo X 8 z) rfl own1 (wr.heap.size + 1) _ 1 1 [y] rfl hr1 hcl hB1 ?_; intro v3 w3 own3 gr3 at3; have hB3 : Below w.heap.size w w3 := below_appended hBa own1 gr3 (Nat.le_refl _) hB1))
              clear own1 hr1 hB1 gr3 at3 own
              rw [← Hnx.out] at own3
              go_roundw
              case rel => exact ⟨z + 1, by omega, by have := Hj.out; congr 1 <;> omega, own3, hB3⟩
              case measure => simp [intOf] <;> omega
            · have ek : z = 8 := by omega
              subst ek
              have ej : (7 : Int) - (8 : Nat) = -1 := by omega
              rw [ej]
              go_wp2
              go_ret
              exact ⟨_, rfl, by rw [Hl3.out]; exact own, hB⟩
set_option maxHeartbeats 4000000 in
set_option maxRecDepth 100000 in
theorem padded128_any (A : Option Addr) (n c : Nat) (b : List UInt8) (w : World) (hr : ReadsB w w.heap.size A n b) (hn : n ≤ 140737488354000) :
    Calls Tryz.prog 70 #[.slice A n c, .int .i64 128] w fun e w' => ∃ v, e = .returned v ∧ OwnB w' w.heap.size v (b ++ Sha.endOf 128 b) ∧ Below w.heap.size w w' := by
  have Hbl := hd hr.len
  obtain ⟨P, HP⟩ : ∃ P, Hd (Sha.padK 128 n = P) := ⟨_, ⟨rfl⟩⟩
  have HPl := hd (show P < 128 by rw [← HP.out]; exact Nat.mod_lt _ (by omega))
  have HPz := hd (show (n + 1 + P) % 128 = 112 by rw [← HP.out]; unfold Sha.padK; omega)
  have HPm := hd (show ∀ k, k < P → ¬ (n + 1 + k) % 128 = 112 from fun k hk => by have := HPz.out; have := HPl.out; omega)
  have own0 := OwnB.empty (w := w) (Nat.le_refl w.heap.size)
  have hr1 : ReadsB (w.alloc (.cells #[] 5)) w.heap.size A n b := ⟨hr.len, hr.is.alloc (Nat.le_refl _) _⟩
  have hcl : ([] : List UInt8).length + b.length ≤ 140737488355328 := by rw [Hbl.out]; simp; omega
  have hBs : w.heap.size ≤ (w.alloc (.cells #[] 5)).heap.size := by simp
  go_enter Tryz.func70, Tryz.ntmps70
  go_wp2_with (first | (at_builtin; have hx := own4; clear hx; refine wpl_appendB rfl _ _ rfl w.heap.size (.slice A2 n c2) b rfl own4 (w2.heap.size + 1) _ 1 1 [128] rfl (ReadsB.one w2 128) hcl4 hBs4 ?_; intro v5 w5 own5 gr5 at5; have hB5 : Below w.heap.size w w5 := below_appended hB4 own4 gr5 (Nat.le_refl _) hBs4) | (at_builtin; refine wpl_appendB rfl _ _ rfl w.heap.size (.slice (some ⟨w.heap.size, 0, none⟩) 0 0) [] rfl own0 w.heap.size A n c b rfl hr1 hcl hBs ?_; intro v2 w2 own2 gr2 at2; rw [List.nil_append] at own2; obtain ⟨A2, c2, e2⟩ := own2.slice; rw [Hbl.out] at e2; subst e2; have hB2 : Below w.heap.size w w2 := below_appended ((Below.refl _ _).alloc (Nat.le_refl _) (.cells #[] 5)) own0 gr2 (Nat.le_refl _) (by simp); have own4 := own2.alloc (.cells #[.int .u8 ((n8 128 : Nat) : Int)] 5); have hB4 := hB2.alloc hB2.size (.cells #[.int .u8 ((n8 128 : Nat) : Int)] 5); have hBs4 := hB4.size; have hcl4 : b.length + [(128 : UInt8)].length ≤ 140737488355328 := (by rw [Hbl.out]; simp; omega)))
  clear own0 hr1 hcl hBs gr2 at2 own2 hB2 own4 hB4 hBs4 hcl4 gr5 at5
  go_loopw [5] (fun v wr => ∃ k : Nat, k ≤ P ∧ OwnB wr w.heap.size v (b ++ [128] ++ List.replicate k 0) ∧ Below w.heap.size w wr) (fun v _ => n + 1 + 128 - lenOf3 v)
  case atStart => exact ⟨0, by omega, by rw [List.replicate_zero, List.append_nil]; exact own5, hB5⟩
  case round =>
    clear own5 hB5
    obtain ⟨k, hk, own, hB⟩ := hrel
    obtain ⟨m, Hm⟩ : ∃ m, Hd (n + 1 + k = m) := ⟨_, ⟨rfl⟩⟩
    have Hlen := hd (show (b ++ [128] ++ List.replicate k 0).length = m by rw [List.length_append, List.length_append, List.length_replicate, Hbl.out, ← Hm.out]; rfl)
    obtain ⟨A3, c3, e3⟩ := own.slice
    rw [Hlen.out] at e3
    subst e3
    have hmm := Hm.out
    have hPP := HPl.out
    by_cases hlt : k < P
    · have hm : ¬ (m : Int) % 128 = 112 := by have h := HPm.out k hlt; omega
      have hcl : (b ++ [128] ++ List.replicate k 0).length + [(0 : UInt8)].length ≤ 140737488355328 := by rw [Hlen.out]; simp; omega
      have own1 := own.alloc (.cells #[.int .u8 ((n8 0 : Nat) : Int)] 5)
      have hr1 := ReadsB.one wr 0
      have hBa := hB.alloc hB.size (.cells #[.int .u8 ((n8 0 : Nat) : Int)] 5)
      have hB1 : w.heap.size ≤ (wr.alloc (.cells #[.int .u8 ((n8 0 : Nat) : Int)] 5)).heap.size := hBa.size
      go_wp2_with (first | (at_builtin; refine wpl_appendB rfl _ _ rfl w.heap.size (.slice A3 m c3) (b ++ [128] ++ List.replicate k 0) rfl own1 (wr.heap.size + 1) _ 1 1 [0] rfl hr1 hcl hB1 ?_; intro v3 w3 own3 gr3 at3; have hB3 : Below w.heap.size w w3 := below_appended hBa own1 gr3 (Nat.le_refl _) hB1))
      clear own1 hr1 hB1 gr3 at3 own
      rw [List.append_assoc, ← List.replicate_succ'] at own3
      obtain ⟨A4, c4, e4⟩ := own3.slice
      subst e4
      go_roundw
      case rel => exact ⟨k + 1, by omega, own3, hB3⟩
      case measure => simp [lenOf3]; have := Hbl.out; omega
    · have ek : k = P := by omega
      subst ek
      have HPe := hd (show Sha.padK 128 n = k from HP.out)
      have hm : (m : Int) % 128 = 112 := by have := HPz.out; omega
      clear hk hlt
      have Hkq := hd (show k + (16 - 8) < 1000 by have := HPl.out; omega)
      go_wp2_with (fail)
      clear hm hmm hPP HPm HPz
      go_loopw [5, 6] (fun v i wr => ∃ j : Nat, j ≤ 8 ∧ i = .int .i64 ((8 + j : Nat) : Int) ∧ OwnB wr w.heap.size v (b ++ [128] ++ List.replicate (k + j) 0) ∧ Below w.heap.size w wr) (fun _ i _ => (16 - intOf i).toNat)
      case atStart => exact ⟨0, by omega, rfl, own, hB⟩
      case round =>
        clear own hB
        obtain ⟨j, hj, rfl, own, hB⟩ := hrel
        obtain ⟨m2, Hm2⟩ : ∃ m2, Hd (n + 1 + k + j = m2) := ⟨_, ⟨rfl⟩⟩
        obtain ⟨i2, Hi2⟩ : ∃ i2, Hd (8 + j = i2) := ⟨_, ⟨rfl⟩⟩
        have Hlen2 := hd (show (b ++ [128] ++ List.replicate (k + j) 0).length = m2 by rw [List.length_append, List.length_append, List.length_replicate, Hbl.out, ← Hm2.out]; simp; omega)
        obtain ⟨A5, c5, e5⟩ := own.slice
        rw [Hlen2.out] at e5
        subst e5
        rw [Hi2.out]
        by_cases hlt : j < 8
        · have t1 : (i2 : Int) < 16 := by have := Hi2.out; omega
          have hcl : (b ++ [128] ++ List.replicate (k + j) 0).length + [(0 : UInt8)].length ≤ 140737488355328 := by rw [Hlen2.out]; have := Hm2.out; have := HPl.out; simp; omega
          have own1 := own.alloc (.cells #[.int .u8 ((n8 0 : Nat) : Int)] 5)
          have hr1 := ReadsB.one wr 0
          have hBa := hB.alloc hB.size (.cells #[.int .u8 ((n8 0 : Nat) : Int)] 5)
          have hB1 : w.heap.size ≤ (wr.alloc (.cells #[.int .u8 ((n8 0 : Nat) : Int)] 5)).heap.size := hBa.size
          have w1 : IntKind.i64.wrap ((i2 : Int) + 1) = (i2 : Int) + 1 := IntWalk.i64_in _ (by omega)
          go_wp2_with (first | (at_builtin; refine wpl_appendB rfl _ _ rfl w.heap.size (.slice A5 m2 c5) (b ++ [128] ++ List.replicate (k + j) 0) rfl own1 (wr.heap.size + 1) _ 1 1 [0] rfl hr1 hcl hB1 ?_; intro v3 w3 own3 gr3 at3; have hB3 : Below w.heap.size w w3 := below_appended hBa own1 gr3 (Nat.le_refl _) hB1))
          clear own1 hr1 hB1 gr3 at3 own
          rw [List.append_assoc, ← List.replicate_succ'] at own3
          go_roundw
          case rel => exact ⟨j + 1, by omega, by have := Hi2.out; congr 1 <;> omega, own3, hB3⟩
          case measure => simp [intOf] <;> omega
        · have ej : j = 8 := by omega
          have t1 : ¬ (i2 : Int) < 16 := by have := Hi2.out; omega
          clear Hkq
          subst ej
          go_wp2_with (fail)
          clear t1
          obtain ⟨X, HX⟩ : ∃ X, Hd (UInt64.ofNat n * 8 = X) := ⟨_, ⟨rfl⟩⟩
          have eX : (n : Int) * 8 = ((n64 X : Nat) : Int) := by rw [← HX.out]; exact Sha.times8 n hn
          rw [eX]
          obtain ⟨l2, Hl2⟩ : ∃ l2, Hd (b ++ [128] ++ List.replicate (k + 8) 0 = l2) := ⟨_, ⟨rfl⟩⟩
          rw [Hl2.out] at Hlen2 own
          have Hl3 := hd (show b ++ Sha.endOf 128 b = l2 ++ Sha.spreadTo X 8 8 by rw [← Hl2.out, Sha.endOf, Hbl.out, HPe.out, HX.out]; simp [List.append_assoc])
          have Hm3 := hd (show m2 ≤ 140737488354900 by rw [← Hm2.out]; have := HPl.out; omega)
          clear eX HX Hl2
          go_loopw [5, 8] (fun v i wr => ∃ z : Nat, z ≤ 8 ∧ i = .int .i64 ((7 : Int) - (z : Int)) ∧ OwnB wr w.heap.size v (l2 ++ Sha.spreadTo X 8 z) ∧ Below w.heap.size w wr) (fun _ i _ => (intOf i + 1).toNat)
          case atStart => exact ⟨0, by omega, rfl, by rw [Sha.spreadTo, List.append_nil]; exact own, hB⟩
          case round =>
            clear own hB
            obtain ⟨z, hz, rfl, own, hB⟩ := hrel
            obtain ⟨A3, c3, e3⟩ := own.slice
            obtain ⟨m, Hm⟩ : ∃ m, Hd ((l2 ++ Sha.spreadTo X 8 z).length = m) := ⟨_, ⟨rfl⟩⟩
            rw [Hm.out] at e3
            subst e3
            have Hmm := hd (show m = m2 + z by rw [← Hm.out, List.length_append, Sha.spreadTo_len, Hlen2.out])
            by_cases hlt : z < 8
            · obtain ⟨j, Hj⟩ : ∃ j, Hd (8 - 1 - z = j) := ⟨_, ⟨rfl⟩⟩
              have ej : (7 : Int) - (z : Int) = (j : Int) := by have := Hj.out; omega
              rw [ej]
              have t0 : (0 : Int) ≤ (j : Int) := by omega
              obtain ⟨J, HJ⟩ : ∃ J, Hd (8 * j = J) := ⟨_, ⟨rfl⟩⟩
              have e8 : (8 : Int) * (j : Int) = (J : Int) := by have := HJ.out; omega
              have w1 : IntKind.i64.wrap (J : Int) = (J : Int) := IntWalk.i64_in _ (by have := HJ.out; have := Hj.out; omega)
              obtain ⟨y, Hy⟩ : ∃ y, Hd ((shr64 X J).toUInt8 = y) := ⟨_, ⟨rfl⟩⟩
              have Hnx := hd (show l2 ++ Sha.spreadTo X 8 (z + 1) = (l2 ++ Sha.spreadTo X 8 z) ++ [y] by rw [Sha.spreadTo, Hj.out, HJ.out, Hy.out, List.append_assoc])
              have hcl : (l2 ++ Sha.spreadTo X 8 z).length + [y].length ≤ 140737488355328 := by rw [Hm.out, Hmm.out]; have := Hm3.out; simp; omega
              have own1 := own.alloc (.cells #[.int .u8 ((n8 y : Nat) : Int)] 5)
              have hr1 := ReadsB.one wr y
              have hBa := hB.alloc hB.size (.cells #[.int .u8 ((n8 y : Nat) : Int)] 5)
              have hB1 : w.heap.size ≤ (wr.alloc (.cells #[.int .u8 ((n8 y : Nat) : Int)] 5)).heap.size := hBa.size
              go_wp2_with (first | rw [Hy.out] | (at_builtin; refine wpl_appendB rfl _ _ rfl w.heap.size (.slice A3 m c3) (l2 ++ Sha.spreadTo X 8 z) rfl own1 (wr.heap.size + 1) _ 1 1 [y] rfl hr1 hcl hB1 ?_; intro v3 w3 own3 gr3 at3; have hB3 : Below w.heap.size w w3 := below_appended hBa own1 gr3 (Nat.le_refl _) hB1))
              clear own1 hr1 hB1 gr3 at3 own
              rw [← Hnx.out] at own3
              go_roundw
              case rel => exact ⟨z + 1, by omega, by have := Hj.out; congr 1 <;> omega, own3, hB3⟩
              case measure => simp [intOf] <;> omega
            · have ek : z = 8 := by omega
              subst ek
              have ej : (7 : Int) - (8 : Nat) = -1 := by omega
              rw [ej]
              go_wp2
              go_ret
              exact ⟨_, rfl, by rw [Hl3.out]; exact own, hB⟩
end Go.Proofs.YtbcboldepghgpaaGreatDoor
