/-
  The walk of mac.Same: are bytes the same.
-/
import Derived.Test.YthigbggacgiamaaDoorGcmF
import Derived.Test.YthigbggacgiamaaDoorAesLaw
set_option linter.unusedVariables false
set_option linter.unusedSimpArgs false
set_option maxRecDepth 100000
namespace Go.Proofs.YthigbggacgiamaaDoor
open Go.RowKit
namespace Aes
theorem xor_none (x y : UInt8) : x ^^^ y = 0 ↔ x = y := by
  constructor
  · intro h
    have h2 : x ^^^ y ^^^ y = 0 ^^^ y := by rw [h]
    rwa [UInt8.xor_assoc, UInt8.xor_self, UInt8.xor_zero, UInt8.zero_xor] at h2
  · rintro rfl; exact UInt8.xor_self
theorem or_none (x y : UInt8) : x ||| y = 0 ↔ x = 0 ∧ y = 0 := by
  constructor
  · intro h
    have hb : ∀ i, (x.toBitVec.getLsbD i || y.toBitVec.getLsbD i) = false := fun i => by
      have h2 := congrArg (fun z => z.toBitVec.getLsbD i) h
      simp only [UInt8.toBitVec_or, BitVec.getLsbD_or] at h2
      rw [h2]; exact BitVec.getLsbD_zero
    constructor
    · apply UInt8.eq_of_toBitVec_eq
      apply BitVec.eq_of_getLsbD_eq
      intro i _
      have := hb i
      rw [Bool.or_eq_false_iff] at this
      rw [this.1]; exact BitVec.getLsbD_zero.symm
    · apply UInt8.eq_of_toBitVec_eq
      apply BitVec.eq_of_getLsbD_eq
      intro i _
      have := hb i
      rw [Bool.or_eq_false_iff] at this
      rw [this.2]; exact BitVec.getLsbD_zero.symm
  · rintro ⟨rfl, rfl⟩; rfl
theorem take_same (a b : List UInt8) (k : Nat) (ha : k < a.length) (hb : k < b.length) : a.take (k + 1) = b.take (k + 1) ↔ a.take k = b.take k ∧ nth a k = nth b k := by
  rw [take_next _ _ ha, take_next _ _ hb]
  constructor
  · intro h
    have h2 := List.append_inj h (by rw [List.length_take, List.length_take]; omega)
    exact ⟨h2.1, by simpa using h2.2⟩
  · rintro ⟨h1, h2⟩; rw [h1, h2]
end Aes
set_option maxHeartbeats 2000000 in
set_option maxRecDepth 100000 in
theorem same_any (A : Option Addr) (n c : Nat) (a : List UInt8) (D : Option Addr) (m d : Nat) (b : List UInt8) (w : World) (ha : ReadsB w w.heap.size A n a) (hb : ReadsB w w.heap.size D m b) (hn : n ≤ 140737488355328) (hm : m ≤ 140737488355328) :
    Calls Tryd.prog 49 #[.slice A n c, .slice D m d] w fun e w' => e = .returned (.bool (decide (a = b))) ∧ Below w.heap.size w w' := by
  have Hal := hd ha.len
  have Hbl := hd hb.len
  obtain ⟨r, Hr⟩ : ∃ r, Hd (decide (a = b) = r) := ⟨_, ⟨rfl⟩⟩
  rw [Hr.out]
  by_cases hnm : n = m
  · subst hnm
    have Hrr := hd (show decide (a.take n = b.take n) = r by rw [List.take_of_length_le (by rw [Hal.out]; exact Nat.le_refl _), List.take_of_length_le (by rw [Hbl.out]; exact Nat.le_refl _)]; exact Hr.out)
    go_enter Tryd.func49, Tryd.ntmps49
    go_wp2
    go_loopw [5, 14] (fun z i wr => ∃ (k : Nat) (x : UInt8), k ≤ n ∧ i = .int .i64 (k : Int) ∧ z = .int .u8 (n8 x) ∧ (x = 0 ↔ a.take k = b.take k) ∧ Below w.heap.size w wr) (fun _ i _ => n - (intOf i).toNat)
    case atStart => exact ⟨0, 0, by omega, rfl, rfl, by simp, Below.refl _ _⟩
    case round =>
      obtain ⟨k, x, hk, rfl, rfl, hx, hB⟩ := hrel
      have Hx := hd hx
      clear hx
      by_cases hlt : k < n
      · have tk : (k : Int) < (n : Int) := by omega
        obtain ⟨pa, hA, hal, hca⟩ := ha.cell hlt
        obtain ⟨pb, hD, hbl, hcb⟩ := hb.cell hlt
        subst hA
        subst hD
        have c1 : wr.cell? (pa.add k) = some (.int .u8 (n8 (nth a k))) := (hB.cell (by rw [block_of_add]; exact hal)).trans hca
        have c2 : wr.cell? (pb.add k) = some (.int .u8 (n8 (nth b k))) := (hB.cell (by rw [block_of_add]; exact hbl)).trans hcb
        have Hnx := hd (show x ||| (nth a k ^^^ nth b k) = 0 ↔ a.take (k + 1) = b.take (k + 1) by
          rw [Aes.or_none, Aes.xor_none, Hx.out, Aes.take_same a b k (by rw [Hal.out]; exact hlt) (by rw [Hbl.out]; exact hlt)])
        go_wp2
        go_region
        go_wp2
        go_roundw
        case rel => exact ⟨k + 1, _, by omega, by go_num, rfl, Hnx.out, hB.drew⟩
        case measure => simp [intOf] <;> omega
      · have ek : k = n := by omega
        subst ek
        have tk : ¬ (k : Int) < (k : Int) := by omega
        have hfin : (x == 0) = r := by rw [← Hrr.out, Bool.eq_iff_iff, beq_iff_eq, decide_eq_true_iff]; exact Hx.out
        have Hfin := hd hfin
        clear hfin
        go_wp2
        go_ret
        exact ⟨by rw [← Hfin.out]; rfl, hB⟩
  · have Hne := hd (show (false : Bool) = r by rw [← Hr.out, eq_comm, decide_eq_false_iff_not]; rintro rfl; exact hnm (Hal.out.symm.trans Hbl.out))
    have tn : ¬ (n : Int) = (m : Int) := by omega
    go_enter Tryd.func49, Tryd.ntmps49
    go_wp2
    go_ret
    exact ⟨by rw [← Hne.out]; rfl, Below.refl _ _⟩
end Go.Proofs.YthigbggacgiamaaDoor
