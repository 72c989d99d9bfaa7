/-
  The walks of what the library does with bytes: Clone, Grow, Concat.
-/
import Derived.Test.YthkggeohdclffaaDoorParts
import Derived.Test.YthkggeohdclffaaDoorZeros
import Derived.Test.YthkggeohdclffaaDoorHeldB
import Derived.WalkSpells
set_option linter.unusedVariables false
set_option linter.unusedSimpArgs false
set_option maxRecDepth 100000
namespace Go.Proofs.YthkggeohdclffaaDoor
open Go.RowKit
theorem clone_bytes (A : Option Addr) (n c : Nat) (l : List UInt8) (w : World) (hr : ReadsB w w.heap.size A n l) (hn : n ≤ 140737488355328) :
    Calls Tryd.prog 20 #[.slice A n c] w fun e w' => ∃ v, e = .returned v ∧ OwnB w' w.heap.size v l ∧ Below w.heap.size w w' := by
  have Hl := hd hr.len
  cases A with
  | none =>
    have hn0 : n = 0 := by
      rcases Nat.eq_zero_or_pos n with h | h
      · exact h
      · obtain ⟨ad, e, _⟩ := hr.is.2 h; cases e
    have hl0 : l = [] := List.length_eq_zero_iff.1 (by rw [Hl.out, hn0])
    subst hl0
    subst hn0
    have heq := fun (W : World) => Lib.run_eql_slice_nil (P := Tryd.prog) W 22 5 none 0 c 0 0 Tryd.underlying22
    go_enter Tryd.func20, Tryd.ntmps20
    go_wp2
    go_ret
    exact ⟨_, rfl, OwnB.nil _ _, Below.refl _ _⟩
  | some ad =>
    have own0 : OwnB (w.alloc (.cells #[] 5)) w.heap.size (.slice (some ⟨w.heap.size, 0, none⟩) 0 0) [] := OwnB.empty (Nat.le_refl _)
    have hB0 : Below w.heap.size w (w.alloc (.cells #[] 5)) := (Below.refl _ _).alloc (Nat.le_refl _) _
    have hra : ReadsB (w.alloc (.cells #[] 5)) w.heap.size (some ad) n l := ⟨hr.len, hr.is.alloc (Nat.le_refl _) _⟩
    have heq := fun (W : World) => Lib.run_eql_slice_nil (P := Tryd.prog) W 22 5 (some ad) n c 0 0 Tryd.underlying22
    go_enter Tryd.func20, Tryd.ntmps20
    go_wp2_with (first | (at_builtin; refine wpl_appendB rfl _ _ rfl w.heap.size _ [] rfl own0 w.heap.size (some ad) n c l rfl hra (by rw [Hl.out]; simp; omega) hB0.size ?_; intro v1 w1 own1 gr1 at1; rw [List.nil_append] at own1; have hB1 := below_appended hB0 own0 gr1 (Nat.le_refl _) hB0.size))
    go_ret
    exact ⟨_, rfl, own1, hB1⟩
theorem grow_nil (n : Nat) (w : World) (hn : n ≤ 140737488355328) :
    Calls Tryd.prog 37 #[.slice none 0 0, .int .i64 (n : Int)] w fun e w' => ∃ v, e = .returned v ∧ OwnB w' w.heap.size v [] ∧ Below w.heap.size w w' := by
  have t0 : ¬ (n : Int) < 0 := by omega
  by_cases h0 : 0 < n
  · have t1 : (0 : Int) < (n : Int) := by omega
    obtain ⟨v', w', hrun, own', gr'⟩ := run_append0_nil w 22 n h0 hn
    obtain ⟨A, c, e⟩ := own'.slice
    rw [List.length_replicate] at e
    subst e
    have hB := below_new (Below.refl w.heap.size w) gr' (Nat.le_refl _)
    have own2 := own'.cut (Nat.zero_le n)
    rw [List.take_zero] at own2
    have hc : (0 : Int) ≤ (c : Int) := by omega
    go_enter Tryd.func37, Tryd.ntmps37
    go_wp2_with (first | (at_builtin; refine Lib.wpList_append_run w rfl _ _ _ _ rfl _ _ rfl rfl _ _ hrun ?_))
    go_ret
    exact ⟨_, rfl, own2, hB⟩
  · obtain rfl : n = 0 := by omega
    go_enter Tryd.func37, Tryd.ntmps37
    go_wp2
    go_ret
    exact ⟨_, rfl, OwnB.nil _ _, Below.refl _ _⟩
set_option maxHeartbeats 4000000 in
set_option maxRecDepth 100000 in
theorem concat_any (A : Option Addr) (n c : Nat) (ps : List Part) (w : World) (hp : Parts w w.heap.size A n ps) (hn : n ≤ 140737488355328) (hj : (joined ps).length ≤ 140737488355328) :
    Calls Tryd.prog 21 #[.slice A n c] w fun e w' => ∃ v, e = .returned v ∧ OwnB w' w.heap.size v (joined ps) ∧ Below w.heap.size w w' := by
  have HP := hd hp
  have HJ := hd hj
  clear hp hj
  have hmono : ∀ k, (joined (ps.take k)).length ≤ (joined ps).length := joined_le ps
  have HMo := hd hmono
  clear hmono
  go_enter Tryd.func21, Tryd.ntmps21
  go_wp2
  go_loop [3, 5, 11] (fun s _ i => ∃ k : Nat, k ≤ n ∧ i = .int .i64 (k : Int) ∧ s = .int .i64 (((joined (ps.take k)).length : Nat) : Int)) (fun _ _ i => (n - intOf i).toNat)
  case atStart => exact ⟨0, by omega, rfl, rfl⟩
  case round =>
    obtain ⟨k, hk, rfl, rfl⟩ := hrel
    by_cases hlt : k < n
    · have t1 : (k : Int) < (n : Int) := by omega
      have t2 : (0 : Int) ≤ (k : Int) := by omega
      have wk : IntKind.i64.wrap ((k : Int) + 1) = (k : Int) + 1 := IntWalk.i64_in _ (by omega)
      obtain ⟨ad, rfl, hab, hc, hr, hpn⟩ := HP.out.is k hlt
      have Hj := hd (joined_more ps k (by rw [HP.out.len]; exact hlt))
      have Hk1 := hd (HMo.out (k + 1))
      obtain ⟨p, Hp⟩ : ∃ p, Hd (part ps k = p) := ⟨_, ⟨rfl⟩⟩
      rw [Hp.out] at hc hr hpn Hj
      obtain ⟨PD, pn, pd, pt⟩ := p
      simp only at hc hr hpn Hj
      have Hpl := hd hr.len
      obtain ⟨m, Hm⟩ : ∃ m, Hd ((joined (ps.take k)).length = m) := ⟨_, ⟨rfl⟩⟩
      have Hm1 := hd (show (joined (ps.take (k + 1))).length = m + pn by rw [Hj.out, List.length_append, Hm.out, Hpl.out])
      have hm1 : m + pn ≤ 140737488355328 := by have h1 := Hk1.out; have h2 := HJ.out; rw [Hm1.out] at h1; omega
      rw [Hm.out]
      have ws : IntKind.i64.wrap ((m : Int) + (pn : Int)) = ((m + pn : Nat) : Int) := by rw [IntWalk.i64_in _ (by omega)]; omega
      have t5 : ¬ ((m + pn : Nat) : Int) < 0 := by omega
      clear hr hpn
      go_wp2
      go_round
      case rel => exact ⟨k + 1, by omega, by congr 1 <;> omega, by rw [Hm1.out]; congr 1 <;> omega⟩
      case measure => simp [intOf] <;> omega
    · obtain rfl : k = n := by omega
      have t1 : ¬ (k : Int) < (k : Int) := by omega
      have hall := hd (show joined (ps.take k) = joined ps by rw [← HP.out.len, List.take_length])
      rw [hall.out]
      obtain ⟨M, HM⟩ : ∃ M, Hd ((joined ps).length = M) := ⟨_, ⟨rfl⟩⟩
      have hM : M ≤ 140737488355328 := by rw [← HM.out]; exact HJ.out
      rw [HM.out]
      go_wp2_with (first | (go_at_call 37; refine (grow_nil M w hM).mono ?_; rintro e w1 ⟨v1, rfl, own1, hB1⟩))
      go_loopw [6, 8, 27] (fun v _ i wr => ∃ j : Nat, j ≤ k ∧ i = .int .i64 (j : Int) ∧ OwnB wr w.heap.size v (joined (ps.take j)) ∧ Below w.heap.size w wr) (fun _ _ i _ => (k - intOf i).toNat)
      case atStart => exact ⟨0, by omega, rfl, own1, hB1⟩
      case round =>
        clear own1 hB1
        obtain ⟨j, hjk, rfl, own, hB⟩ := hrel
        by_cases hjl : j < k
        · have t1 : (j : Int) < (k : Int) := by omega
          have t2 : (0 : Int) ≤ (j : Int) := by omega
          have wk : IntKind.i64.wrap ((j : Int) + 1) = (j : Int) + 1 := IntWalk.i64_in _ (by omega)
          obtain ⟨ad, rfl, hab, hc, hr, hpn⟩ := (HP.out.below hB).is j hjl
          have Hj := hd (joined_more ps j (by rw [HP.out.len]; exact hjl))
          have Hk1 := hd (HMo.out (j + 1))
          obtain ⟨p, Hp⟩ : ∃ p, Hd (part ps j = p) := ⟨_, ⟨rfl⟩⟩
          rw [Hp.out] at hc hr hpn Hj
          obtain ⟨PD, pn, pd, pt⟩ := p
          simp only at hc hr hpn Hj
          have Hlen := hd (show (joined (ps.take j)).length + pt.length ≤ 140737488355328 by
            have h1 := Hk1.out
            have h2 := HJ.out
            rw [Hj.out, List.length_append] at h1
            omega)
          have HR := hd hr
          have Own := hd own
          clear hr hpn own
          go_wp2_with (first | (at_builtin; refine wpl_appendB rfl _ _ rfl w.heap.size u6 (joined (ps.take j)) rfl Own.out w.heap.size PD pn pd pt rfl HR.out Hlen.out hB.size ?_; intro v2 w2 own2 gr2 at2))
          go_roundw
          case rel => exact ⟨j + 1, by omega, by congr 1 <;> omega, by rw [Hj.out]; exact own2, below_appended hB Own.out gr2 (Nat.le_refl _) hB.size⟩
          case measure => simp [intOf] <;> omega
        · obtain rfl : j = k := by omega
          have t1 : ¬ (j : Int) < (j : Int) := by omega
          rw [hall.out] at own
          go_wp2
          go_ret
          exact ⟨_, rfl, own, hB⟩
end Go.Proofs.YthkggeohdclffaaDoor
