/-
  The walk of the reference's Next.
-/
import Derived.Test.YthkggeohdclffaaDoorDerC
import Derived.Test.YthkggeohdclffaaDoorDerM
set_option linter.unusedVariables false
set_option linter.unusedSimpArgs false
set_option maxRecDepth 100000
namespace Go.Proofs.YthkggeohdclffaaDoor
open Go.RowKit
theorem run_slice_two {P : Program} {w : World} {o : Oper} {ρ : Operand → Value} {t e : TypeId} {x y z : Operand} (ho : o.op = .slice t x (some y) (some z) none) (ht : P.underlying t = some (.slice e)) (hs : (P.info? e).map (·.size) = some 1) (D : Option Addr) (n d k h : Nat)
    (hx : ρ x = .slice D n d) (hy : ρ y = .int .i64 (k : Int)) (hz : ρ z = .int .i64 (h : Int)) (hk : k ≤ h) (hnd : h ≤ d) : (execOp ρ o).run P w = .ok (.value (.slice (if d = k then D else D.map (·.add k)) (h - k) (d - k))) w := by
  have h1 : (k : Int) ≤ (h : Int) := by omega
  have h2 : (h : Int) ≤ (d : Int) := by omega
  have h3 : (0 : Int) ≤ (k : Int) := by omega
  have h5 : (0 : Int) ≤ (h : Int) := by omega
  have h6 : k ≤ d := by omega
  unfold execOp
  simp only [ho, hx, hy]
  by_cases h4 : d = k
  · obtain rfl : h = k := by omega
    subst h4
    simp [go_sem, Instr.sliceAt, Instr.slice, Instr.sliceBounds, Instr.sliceBound, run_underlying ht, run_sizeOf hs, hy, hz, h3, asIntOf]
  · simp [go_sem, Instr.sliceAt, Instr.slice, Instr.sliceBounds, Instr.sliceBound, run_underlying ht, run_sizeOf hs, hy, hz, h1, h2, h3, h5, h6, hnd, hk, asIntOf, h4]
theorem run_sub_nat {P : Program} {o : Oper} {ρ : Operand → Value} {x y : Operand} {t rt : TypeId} (ho : o.op = .binOp .sub t x y rt) (i j : Nat) (hx : ρ x = .int .i64 (i : Int)) (hy : ρ y = .int .i64 (j : Int)) (h : i < 9223372036854775808) (hj : j ≤ i) (w : World) : (execOp ρ o).run P w = .ok (.value (.int .i64 ((i - j : Nat) : Int))) w := by
  have e : IntKind.i64.wrap ((i : Int) - (j : Int)) = ((i - j : Nat) : Int) := by rw [IntWalk.i64_in _ (by omega)]; omega
  unfold execOp
  simp only [ho, hx, hy]
  simp [go_sem]
  simpa using e
namespace Der
theorem len1 (b : List UInt8) (h : ¬ b.length = 0) (h1 : nth b 0 < 128) : len b = (n8 (nth b 0), 1, 0) := by unfold len; rw [if_neg h, if_pos h1]
theorem lenX (b : List UInt8) (h : ¬ b.length = 0) (h1 : ¬ nth b 0 < 128) (h2 : ¬ nth b 0 = 129) (h3 : ¬ nth b 0 = 130) : len b = (0, 0, 143) := by unfold len; rw [if_neg h, if_neg h1, if_neg h2, if_neg h3]
theorem lenA (b : List UInt8) (h : ¬ b.length = 0) (h2 : nth b 0 = 129) : len b = if b.length ≤ 1 then (0, 0, 141) else if n8 (nth b 1) < 128 then (0, 0, 143) else (n8 (nth b 1), 2, 0) := by unfold len; rw [if_neg h, if_neg (by rw [h2]; decide), if_pos h2]
theorem lenB (b : List UInt8) (h : ¬ b.length = 0) (h2 : nth b 0 = 130) : len b = if b.length ≤ 2 then (0, 0, 141) else if n8 (nth b 1) * 256 + n8 (nth b 2) < 256 then (0, 0, 143) else (n8 (nth b 1) * 256 + n8 (nth b 2), 3, 0) := by unfold len; rw [if_neg h, if_neg (by rw [h2]; decide), if_neg (by rw [h2]; decide), if_pos h2]
theorem lt128' (c : UInt8) : c < 128 ↔ n8 c < 128 := UInt8.lt_iff_toNat_lt
/-- A length's bytes, as read. -/
def lval (c1 c2 : UInt8) : Nat → Nat
  | 0 => 0
  | 1 => n8 c1
  | _ => n8 c1 * 256 + n8 c2
theorem lval_le (c1 c2 : UInt8) (j : Nat) : lval c1 c2 j ≤ 65535 := by
  have := n8_lt c1
  have := n8_lt c2
  unfold lval
  split <;> omega
theorem nth_drop (b : List UInt8) (k i : Nat) : nth (b.drop k) i = nth b (k + i) := by unfold nth; simp [List.getD_eq_getElem?_getD, List.getElem?_drop]
end Der
set_option maxHeartbeats 8000000 in
set_option maxRecDepth 100000 in
theorem rnext_any (A : Option Addr) (n c : Nat) (b : List UInt8) (at_ : Int) (w : World) (hr : ReadsB w w.heap.size A n b) (hc : n ≤ c) (hn : n ≤ 140737488355000) :
    Calls Tryd.prog 10 #[.slice A n c, .int .i64 at_] w (Told w (Der.next b at_)) := by
  have Hl := hd hr.len
  have b0 : Blk (w.alloc (.cells (itemCells 0 (.slice none 0 0) 0 0) 25)) w.heap.size 25 (itemCells 0 (.slice none 0 0) 0 0) := Blk.nu rfl
  have hB0 : Below w.heap.size w (w.alloc (.cells (itemCells 0 (.slice none 0 0) 0 0) 25)) := (Below.refl _ _).alloc (Nat.le_refl _) _
  by_cases h1 : at_ < 0
  · have HD := hd (show Der.next b at_ = Der.none_ 141 by unfold Der.next; rw [if_pos (.inl h1)])
    rw [HD.out]
    go_enter Tryd.func10, Tryd.ntmps10
    go_wp2_with (first | (refine wpl_store_it rfl rfl _ _ rfl w.heap.size 0 none 0 0 0 0 rfl rfl _ b0 rfl ?_) | (refine wpl_build rfl 25 _ rfl [] rfl _ builtIt0 ?_) | (refine wpl_alloc rfl 25 rfl _ zeroIt ?_))
    exact ret_it rfl rfl w.heap.size rfl _ rfl 0 (.slice none 0 0) 0 0 (b0.setRow _) rfl (Told.none (below_setRow hB0 (Nat.le_refl _) _))
  · obtain ⟨k, rfl⟩ : ∃ k : Nat, at_ = (k : Int) := ⟨at_.toNat, by omega⟩
    by_cases h2 : n ≤ k
    · have HD := hd (show Der.next b k = Der.none_ 141 by unfold Der.next; rw [if_pos (.inr (by rw [Hl.out]; omega))])
      rw [HD.out]
      have t2 : (n : Int) ≤ (k : Int) := by omega
      go_enter Tryd.func10, Tryd.ntmps10
      go_wp2_with (first | (refine wpl_store_it rfl rfl _ _ rfl w.heap.size 0 none 0 0 0 0 rfl rfl _ b0 rfl ?_) | (refine wpl_build rfl 25 _ rfl [] rfl _ builtIt0 ?_) | (refine wpl_alloc rfl 25 rfl _ zeroIt ?_))
      exact ret_it rfl rfl w.heap.size rfl _ rfl 0 (.slice none 0 0) 0 0 (b0.setRow _) rfl (Told.none (below_setRow hB0 (Nat.le_refl _) _))
    have hkn : k < n := by omega
    have t2 : ¬ (n : Int) ≤ (k : Int) := by omega
    have hno : ¬ ((k : Int) < 0 ∨ (b.length : Int) ≤ (k : Int)) := by rw [Hl.out]; omega
    obtain ⟨ad, hA, had, hc0⟩ := hr.cell hkn
    subst hA
    obtain ⟨x0, Hx0⟩ : ∃ x, Hd (nth b k = x) := ⟨_, ⟨rfl⟩⟩
    rw [Hx0.out] at hc0
    have hcA : (w.alloc (.cells (itemCells 0 (.slice none 0 0) 0 0) 25)).cell? (ad.add k) = some (.int .u8 ((n8 x0 : Nat) : Int)) := (hB0.cell (p := ad.add k) (by rw [block_of_add]; exact had)).trans hc0
    by_cases h3 : x0 &&& 31 = 31
    · have HD := hd (show Der.next b k = Der.none_ 142 by unfold Der.next; rw [if_neg hno, Int.toNat_natCast, Hx0.out, if_pos h3])
      rw [HD.out]
      have q3 : (x0 &&& 31 == 31) = true := by simpa using h3
      go_enter Tryd.func10, Tryd.ntmps10
      go_wp2_with (first | (refine wpl_store_it rfl rfl _ _ rfl w.heap.size 0 none 0 0 0 0 rfl rfl _ b0 rfl ?_) | (refine wpl_build rfl 25 _ rfl [] rfl _ builtIt0 ?_) | (refine wpl_alloc rfl 25 rfl _ zeroIt ?_))
      exact ret_it rfl rfl w.heap.size rfl _ rfl 0 (.slice none 0 0) 0 0 (b0.setRow _) rfl (Told.none (below_setRow hB0 (Nat.le_refl _) _))
    have q3 : (x0 &&& 31 == 31) = false := by simpa using h3
    have wk1 : IntKind.i64.wrap ((k : Int) + 1) = ((k + 1 : Nat) : Int) := by rw [IntWalk.i64_in _ (by omega)]; omega
    obtain ⟨b2, Hb2⟩ : ∃ x, Hd (b.drop (k + 1) = x) := ⟨_, ⟨rfl⟩⟩
    have Hb2l := hd (show b2.length = n - (k + 1) by rw [← Hb2.out, List.length_drop, Hl.out])
    have HDn := hd (fun (N K : Nat) (E : Int) (h : Der.len b2 = (N, K, E)) => show Der.next b k = (if E ≠ 0 then Der.none_ E else if n - (k + 1 + K) < N then Der.none_ 141 else ⟨x0, (b.drop (k + 1 + K)).take N, k, 1 + K + N, 0⟩) by unfold Der.next; rw [if_neg hno, Int.toNat_natCast, Hx0.out, if_neg h3, Hb2.out, h, Hl.out])
    by_cases h4 : n ≤ k + 1
    · have HD := hd (show Der.next b k = Der.none_ 141 by rw [HDn.out _ _ _ (len0 b2 (by rw [Hb2l.out]; omega))]; rfl)
      rw [HD.out]
      have t4 : (n : Int) ≤ ((k + 1 : Nat) : Int) := by omega
      go_enter Tryd.func10, Tryd.ntmps10
      go_wp2_with (first | (refine wpl_store_it rfl rfl _ _ rfl w.heap.size 0 none 0 0 0 0 rfl rfl _ b0 rfl ?_) | (refine wpl_build rfl 25 _ rfl [] rfl _ builtIt0 ?_) | (refine wpl_alloc rfl 25 rfl _ zeroIt ?_))
      exact ret_it rfl rfl w.heap.size rfl _ rfl 0 (.slice none 0 0) 0 0 (b0.setRow _) rfl (Told.none (below_setRow hB0 (Nat.le_refl _) _))
    have t4 : ¬ (n : Int) ≤ (k : Int) + 1 := by omega
    have h4n : k + 1 < n := by omega
    have hnz : ¬ b2.length = 0 := by rw [Hb2l.out]; omega
    obtain ⟨c0, Hc0⟩ : ∃ x, Hd (nth b2 0 = x) := ⟨_, ⟨rfl⟩⟩
    have hq0 : w.cell? ⟨ad.block, ad.off + (k + 1), none⟩ = some (.int .u8 ((n8 c0 : Nat) : Int)) := by
      obtain ⟨ad', e, _, h⟩ := hr.cell h4n
      obtain rfl : ad = ad' := by injection e
      rw [← Hc0.out, ← Hb2.out, Der.nth_drop]
      exact h
    have Hq := hd (fun (i : Nat) (hi : k + 1 + i < n) => show w.cell? ⟨ad.block, ad.off + (k + 1 + i), none⟩ = some (.int .u8 ((n8 (nth b2 i) : Nat) : Int)) by
      obtain ⟨ad', e, _, h⟩ := hr.cell hi
      obtain rfl : ad = ad' := by injection e
      rw [← Hb2.out, Der.nth_drop, show k + 1 + i = (k + i) + 1 by omega]
      rw [show k + 1 + i = (k + i) + 1 by omega] at h
      exact h)
    obtain ⟨X, HX⟩ : ∃ X, Hd (Der.next b k = X) := ⟨_, ⟨rfl⟩⟩
    have HNo := hd (fun (E : Int) (hE : Der.next b k = Der.none_ E) (e : Ending) (wz : World) (h : Told w (Der.none_ E) e wz) => show Told w X e wz from Told.mk h (HX.out.symm.trans hE))
    rw [HX.out]
    have wk2 : IntKind.i64.wrap ((k : Int) + 2) = ((k + 2 : Nat) : Int) := by rw [IntWalk.i64_in _ (by omega)]; omega
    go_enter Tryd.func10, Tryd.ntmps10
    go_upto_if 41 with (first | (refine wpl_alloc rfl 25 rfl _ zeroIt ?_))
    go_cut [6, 7] (fun s6 s7 wx => ∃ N K : Nat, s6 = .int .i64 (N : Int) ∧ s7 = .int .i64 ((k + 1 + K : Nat) : Int) ∧ Hd (Der.len b2 = (N, K, 0)) ∧ wx = w.alloc (.cells (itemCells 0 (.slice none 0 0) 0 0) 25))
    case first =>
      by_cases g1 : c0 < 128
      · have v1 : n8 c0 < 128 := (Der.lt128' c0).1 g1
        have t5 : ¬ 128 ≤ n8 c0 := by omega
        go_wp2
        go_meet
        exact ⟨n8 c0, 1, rfl, congrArg (Value.int .i64) (by omega), ⟨by rw [Der.len1 b2 hnz (by rw [Hc0.out]; exact g1), Hc0.out]⟩, rfl⟩
      have v1 : 128 ≤ n8 c0 := by
        rcases Nat.lt_or_ge (n8 c0) 128 with h | h
        · exact absurd ((Der.lt128' c0).2 h) g1
        · exact h
      have v2 := n8_lt c0
      have t5 : 128 ≤ n8 c0 := by omega
      obtain ⟨m, Hm⟩ : ∃ m, Hd (n8 c0 = 128 + m) := ⟨n8 c0 - 128, ⟨by omega⟩⟩
      have wk3 : IntKind.i64.wrap (((n8 c0 : Nat) : Int) - 128) = (m : Int) := by rw [IntWalk.i64_in _ (by omega)]; have := Hm.out; omega
      obtain ⟨rem, Hrem⟩ : ∃ y, Hd (n - (k + 2) = y) := ⟨_, ⟨rfl⟩⟩
      have wk5 : IntKind.i64.wrap ((n : Int) - ((k : Int) + 2)) = (rem : Int) := by rw [IntWalk.i64_in _ (by omega)]; have := Hrem.out; omega
      obtain ⟨c1, Hc1⟩ : ∃ x, Hd (nth b2 1 = x) := ⟨_, ⟨rfl⟩⟩
      obtain ⟨c2, Hc2⟩ : ∃ x, Hd (nth b2 2 = x) := ⟨_, ⟨rfl⟩⟩
      by_cases g2 : m = 1
      · subst g2
        have e1x := hd (show c0 = 129 from UInt8.toNat_inj.1 Hm.out)
        have t6 : (rem : Int) < 1 ∨ ¬ (rem : Int) < 1 := by omega
        have hrd : ∀ j, j < 1 → Hd (Der.lval c1 c2 (j + 1) = 256 * Der.lval c1 c2 j + n8 (nth b2 (1 + j))) := fun j hj => ⟨by
          have e1 := Hc1.out
          have e2 := Hc2.out
          rcases (show j = 0 ∨ j = 1 by omega) with rfl | rfl
          · simp [Der.lval, e1]
          · simp [Der.lval, e1, e2, Nat.mul_comm]⟩
        by_cases g5 : rem < 1
        · have HD := hd (show Der.next b k = Der.none_ 141 by rw [HDn.out _ _ _ (show Der.len b2 = (0, 0, 141) by rw [Der.lenA b2 hnz (by rw [Hc0.out, e1x.out]), if_pos (by rw [Hb2l.out]; have := Hrem.out; omega)])]; rfl)
          have t7 : (rem : Int) < 1 := by omega
          go_wp2_with (first | (refine wpl_store_it rfl rfl _ _ rfl w.heap.size 0 none 0 0 0 0 rfl rfl _ b0 rfl ?_) | (refine wpl_build rfl 25 _ rfl [] rfl _ builtIt0 ?_) | (refine wpl_alloc rfl 25 rfl _ zeroIt ?_))
          exact ret_it rfl rfl w.heap.size rfl _ rfl 0 (.slice none 0 0) 0 0 (b0.setRow _) rfl (HNo.out _ HD.out _ _ (Told.none (below_setRow hB0 (Nat.le_refl _) _)))
        have t7 : ¬ (rem : Int) < 1 := by omega
        go_wp2
        go_loopw [6, 9] (fun s6 s9 wr => ∃ j : Nat, j ≤ 1 ∧ s6 = .int .i64 (Der.lval c1 c2 j : Int) ∧ s9 = .int .i64 (j : Int) ∧ wr = w.alloc (.cells (itemCells 0 (.slice none 0 0) 0 0) 25)) (fun _ s9 _ => 1 - (intOf s9).toNat)
        case atStart => exact ⟨0, Nat.zero_le _, rfl, rfl, rfl⟩
        case round =>
          obtain ⟨j, hj, rfl, rfl, rfl⟩ := hrel
          by_cases g6 : j < 1
          · have t8 : (j : Int) < 1 := by omega
            obtain ⟨P, HP⟩ : ∃ P, Hd (k + 2 + j = P) := ⟨_, ⟨rfl⟩⟩
            have hPn : P < n := by have := HP.out; have := Hrem.out; omega
            have wp : IntKind.i64.wrap ((k : Int) + 2 + (j : Int)) = (P : Int) := by have := HP.out; rw [IntWalk.i64_in _ (by omega)]; omega
            have hcP : w.cell? (ad.add P) = some (.int .u8 ((n8 (nth b2 (1 + j)) : Nat) : Int)) := by
              have h := Hq.out (1 + j) (by have := HP.out; omega)
              rw [show k + 1 + (1 + j) = (k + 1 + j) + 1 by omega] at h
              rw [show P = (k + 1 + j) + 1 by have := HP.out; omega]
              exact h
            have hle := Der.lval_le c1 c2 j
            have hxl := n8_lt (nth b2 (1 + j))
            have Hs := hrd j g6
            obtain ⟨V, HV⟩ : ∃ V, Hd (Der.lval c1 c2 j = V) := ⟨_, ⟨rfl⟩⟩
            obtain ⟨x, Hx⟩ : ∃ x, Hd (nth b2 (1 + j) = x) := ⟨_, ⟨rfl⟩⟩
            rw [HV.out] at hle Hs ⊢
            rw [Hx.out] at hcP hxl Hs
            have wm : IntKind.i64.wrap (256 * (V : Int)) = ((256 * V : Nat) : Int) := by rw [IntWalk.i64_in _ (by omega)]; omega
            have wm' : IntKind.i64.wrap ((V : Int) * 256) = ((256 * V : Nat) : Int) := by rw [IntWalk.i64_in _ (by omega)]; omega
            obtain ⟨V2, HV2⟩ : ∃ V2, Hd (256 * V = V2) := ⟨_, ⟨rfl⟩⟩
            rw [HV2.out] at wm wm' Hs
            have wn : IntKind.i64.wrap ((V2 : Int) + ((n8 x : Nat) : Int)) = (V2 : Int) + ((n8 x : Nat) : Int) := by have := HV2.out; rw [IntWalk.i64_in _ (by omega)]
            have wj : IntKind.i64.wrap ((j : Int) + 1) = (j : Int) + 1 := IntWalk.i64_in _ (by omega)
            have hcP2 : (w.alloc (.cells (itemCells 0 (.slice none 0 0) 0 0) 25)).cell? (ad.add P) = some (.int .u8 ((n8 x : Nat) : Int)) := (hB0.cell (p := ad.add P) (by rw [block_of_add]; exact had)).trans hcP
            go_wp2
            go_roundw
            case rel => exact ⟨j + 1, g6, by rw [Hs.out]; go_num, by go_num, trivial⟩
            case measure => simp [intOf]; omega
          · obtain rfl : j = 1 := by omega
            have t8 : ¬ ((1 : Nat) : Int) < 1 := by omega
            have wq : IntKind.i64.wrap ((k : Int) + 2 + 1) = (k : Int) + 2 + 1 := IntWalk.i64_in _ (by omega)
            have hle := Der.lval_le c1 c2 1
            have HVd := hd (show Der.lval c1 c2 1 = n8 (nth b2 1) by have e1 := Hc1.out; have e2 := Hc2.out; rw [e1]; rfl)
            obtain ⟨V, HV⟩ : ∃ V, Hd (Der.lval c1 c2 1 = V) := ⟨_, ⟨rfl⟩⟩
            rw [HV.out] at hle HVd ⊢
            by_cases g7 : V < 128
            · have t9 : (V : Int) < 128 := by omega
              have HD := hd (show Der.next b k = Der.none_ 143 by rw [HDn.out _ _ _ (show Der.len b2 = (0, 0, 143) by rw [Der.lenA b2 hnz (by rw [Hc0.out, e1x.out]), if_neg (by rw [Hb2l.out]; have := Hrem.out; omega), if_pos (by rw [← HVd.out]; exact g7)])]; rfl)
              clear g5 g7
              go_wp2_with (first | (refine wpl_store_it rfl rfl _ _ rfl w.heap.size 0 none 0 0 0 0 rfl rfl _ b0 rfl ?_) | (refine wpl_build rfl 25 _ rfl [] rfl _ builtIt0 ?_) | (refine wpl_alloc rfl 25 rfl _ zeroIt ?_))
              exact ret_it rfl rfl w.heap.size rfl _ rfl 0 (.slice none 0 0) 0 0 (b0.setRow _) rfl (HNo.out _ HD.out _ _ (Told.none (below_setRow hB0 (Nat.le_refl _) _)))
            · have t9 : ¬ (V : Int) < 128 := by omega
              go_wp2
              go_meet
              exact ⟨V, 2, rfl, congrArg (Value.int .i64) (by omega), ⟨by rw [Der.lenA b2 hnz (by rw [Hc0.out, e1x.out]), if_neg (by rw [Hb2l.out]; have := Hrem.out; omega), if_neg (by rw [← HVd.out]; exact g7), ← HVd.out]⟩, rfl⟩
      by_cases g3 : m = 2
      · subst g3
        have e1x := hd (show c0 = 130 from UInt8.toNat_inj.1 Hm.out)
        have t6 : (rem : Int) < 2 ∨ ¬ (rem : Int) < 2 := by omega
        have hrd : ∀ j, j < 2 → Hd (Der.lval c1 c2 (j + 1) = 256 * Der.lval c1 c2 j + n8 (nth b2 (1 + j))) := fun j hj => ⟨by
          have e1 := Hc1.out
          have e2 := Hc2.out
          rcases (show j = 0 ∨ j = 1 by omega) with rfl | rfl
          · simp [Der.lval, e1]
          · simp [Der.lval, e1, e2, Nat.mul_comm]⟩
        by_cases g5 : rem < 2
        · have HD := hd (show Der.next b k = Der.none_ 141 by rw [HDn.out _ _ _ (show Der.len b2 = (0, 0, 141) by rw [Der.lenB b2 hnz (by rw [Hc0.out, e1x.out]), if_pos (by rw [Hb2l.out]; have := Hrem.out; omega)])]; rfl)
          have t7 : (rem : Int) < 2 := by omega
          go_wp2_with (first | (refine wpl_store_it rfl rfl _ _ rfl w.heap.size 0 none 0 0 0 0 rfl rfl _ b0 rfl ?_) | (refine wpl_build rfl 25 _ rfl [] rfl _ builtIt0 ?_) | (refine wpl_alloc rfl 25 rfl _ zeroIt ?_))
          exact ret_it rfl rfl w.heap.size rfl _ rfl 0 (.slice none 0 0) 0 0 (b0.setRow _) rfl (HNo.out _ HD.out _ _ (Told.none (below_setRow hB0 (Nat.le_refl _) _)))
        have t7 : ¬ (rem : Int) < 2 := by omega
        go_wp2
        go_loopw [6, 9] (fun s6 s9 wr => ∃ j : Nat, j ≤ 2 ∧ s6 = .int .i64 (Der.lval c1 c2 j : Int) ∧ s9 = .int .i64 (j : Int) ∧ wr = w.alloc (.cells (itemCells 0 (.slice none 0 0) 0 0) 25)) (fun _ s9 _ => 2 - (intOf s9).toNat)
        case atStart => exact ⟨0, Nat.zero_le _, rfl, rfl, rfl⟩
        case round =>
          obtain ⟨j, hj, rfl, rfl, rfl⟩ := hrel
          by_cases g6 : j < 2
          · have t8 : (j : Int) < 2 := by omega
            obtain ⟨P, HP⟩ : ∃ P, Hd (k + 2 + j = P) := ⟨_, ⟨rfl⟩⟩
            have hPn : P < n := by have := HP.out; have := Hrem.out; omega
            have wp : IntKind.i64.wrap ((k : Int) + 2 + (j : Int)) = (P : Int) := by have := HP.out; rw [IntWalk.i64_in _ (by omega)]; omega
            have hcP : w.cell? (ad.add P) = some (.int .u8 ((n8 (nth b2 (1 + j)) : Nat) : Int)) := by
              have h := Hq.out (1 + j) (by have := HP.out; omega)
              rw [show k + 1 + (1 + j) = (k + 1 + j) + 1 by omega] at h
              rw [show P = (k + 1 + j) + 1 by have := HP.out; omega]
              exact h
            have hle := Der.lval_le c1 c2 j
            have hxl := n8_lt (nth b2 (1 + j))
            have Hs := hrd j g6
            obtain ⟨V, HV⟩ : ∃ V, Hd (Der.lval c1 c2 j = V) := ⟨_, ⟨rfl⟩⟩
            obtain ⟨x, Hx⟩ : ∃ x, Hd (nth b2 (1 + j) = x) := ⟨_, ⟨rfl⟩⟩
            rw [HV.out] at hle Hs ⊢
            rw [Hx.out] at hcP hxl Hs
            have wm : IntKind.i64.wrap (256 * (V : Int)) = ((256 * V : Nat) : Int) := by rw [IntWalk.i64_in _ (by omega)]; omega
            have wm' : IntKind.i64.wrap ((V : Int) * 256) = ((256 * V : Nat) : Int) := by rw [IntWalk.i64_in _ (by omega)]; omega
            obtain ⟨V2, HV2⟩ : ∃ V2, Hd (256 * V = V2) := ⟨_, ⟨rfl⟩⟩
            rw [HV2.out] at wm wm' Hs
            have wn : IntKind.i64.wrap ((V2 : Int) + ((n8 x : Nat) : Int)) = (V2 : Int) + ((n8 x : Nat) : Int) := by have := HV2.out; rw [IntWalk.i64_in _ (by omega)]
            have wj : IntKind.i64.wrap ((j : Int) + 1) = (j : Int) + 1 := IntWalk.i64_in _ (by omega)
            have hcP2 : (w.alloc (.cells (itemCells 0 (.slice none 0 0) 0 0) 25)).cell? (ad.add P) = some (.int .u8 ((n8 x : Nat) : Int)) := (hB0.cell (p := ad.add P) (by rw [block_of_add]; exact had)).trans hcP
            go_wp2
            go_roundw
            case rel => exact ⟨j + 1, g6, by rw [Hs.out]; go_num, by go_num, trivial⟩
            case measure => simp [intOf]; omega
          · obtain rfl : j = 2 := by omega
            have t8 : ¬ ((2 : Nat) : Int) < 2 := by omega
            have wq : IntKind.i64.wrap ((k : Int) + 2 + 2) = (k : Int) + 2 + 2 := IntWalk.i64_in _ (by omega)
            have hle := Der.lval_le c1 c2 2
            have HVd := hd (show Der.lval c1 c2 2 = n8 (nth b2 1) * 256 + n8 (nth b2 2) by have e1 := Hc1.out; have e2 := Hc2.out; rw [e1, e2]; rfl)
            obtain ⟨V, HV⟩ : ∃ V, Hd (Der.lval c1 c2 2 = V) := ⟨_, ⟨rfl⟩⟩
            rw [HV.out] at hle HVd ⊢
            by_cases g7 : V < 256
            · have t9 : (V : Int) < 256 := by omega
              have HD := hd (show Der.next b k = Der.none_ 143 by rw [HDn.out _ _ _ (show Der.len b2 = (0, 0, 143) by rw [Der.lenB b2 hnz (by rw [Hc0.out, e1x.out]), if_neg (by rw [Hb2l.out]; have := Hrem.out; omega), if_pos (by rw [← HVd.out]; exact g7)])]; rfl)
              clear g5 g7
              go_wp2_with (first | (refine wpl_store_it rfl rfl _ _ rfl w.heap.size 0 none 0 0 0 0 rfl rfl _ b0 rfl ?_) | (refine wpl_build rfl 25 _ rfl [] rfl _ builtIt0 ?_) | (refine wpl_alloc rfl 25 rfl _ zeroIt ?_))
              exact ret_it rfl rfl w.heap.size rfl _ rfl 0 (.slice none 0 0) 0 0 (b0.setRow _) rfl (HNo.out _ HD.out _ _ (Told.none (below_setRow hB0 (Nat.le_refl _) _)))
            · have t9 : ¬ (V : Int) < 256 := by omega
              go_wp2
              go_meet
              exact ⟨V, 3, rfl, congrArg (Value.int .i64) (by omega), ⟨by rw [Der.lenB b2 hnz (by rw [Hc0.out, e1x.out]), if_neg (by rw [Hb2l.out]; have := Hrem.out; omega), if_neg (by rw [← HVd.out]; exact g7), ← HVd.out]⟩, rfl⟩
      · have HD := hd (show Der.next b k = Der.none_ 143 by rw [HDn.out _ _ _ (Der.lenX b2 hnz (by rw [Hc0.out]; exact g1) (by rw [Hc0.out]; intro e; subst e; exact g2 (by have := Hm.out; rw [show n8 129 = 129 from rfl] at this; omega)) (by rw [Hc0.out]; intro e; subst e; exact g3 (by have := Hm.out; rw [show n8 130 = 130 from rfl] at this; omega)))]; rfl)
        have t6 : ((m : Int) != 1) = true := by simp; omega
        have t7 : ((m : Int) != 2) = true := by simp; omega
        go_wp2_with (first | (refine wpl_store_it rfl rfl _ _ rfl w.heap.size 0 none 0 0 0 0 rfl rfl _ b0 rfl ?_) | (refine wpl_build rfl 25 _ rfl [] rfl _ builtIt0 ?_) | (refine wpl_alloc rfl 25 rfl _ zeroIt ?_))
        exact ret_it rfl rfl w.heap.size rfl _ rfl 0 (.slice none 0 0) 0 0 (b0.setRow _) rfl (HNo.out _ HD.out _ _ (Told.none (below_setRow hB0 (Nat.le_refl _) _)))
    case rest =>
      obtain ⟨N, K, rfl, rfl, HL, rfl⟩ := hcut
      have hle := Der.len_le b2 (by rw [HL.out])
      rw [HL.out, Hb2l.out] at hle
      have hK1 : k + 1 + K ≤ n := by have := hle.1; dsimp only at this; omega
      have hN1 : N ≤ 65535 := hle.2.2.1
      have hK3 : K ≤ 3 := hle.2.1
      clear hle
      obtain ⟨BG, HBG⟩ : ∃ x, Hd (k + 1 + K = x) := ⟨_, ⟨rfl⟩⟩
      rw [HBG.out] at hK1 ⊢
      have wk4 : IntKind.i64.wrap ((n : Int) - (BG : Int)) = ((n - BG : Nat) : Int) := by rw [IntWalk.i64_in _ (by omega)]; omega
      by_cases h5 : n - BG < N
      · have HD := hd (show Der.next b k = Der.none_ 141 by rw [HDn.out _ _ _ HL.out, HBG.out, if_neg (by simp), if_pos h5])
        have t5 : ((n - BG : Nat) : Int) < (N : Int) := by omega
        go_wp2_with (first | (refine wpl_store_it rfl rfl _ _ rfl w.heap.size 0 none 0 0 0 0 rfl rfl _ b0 rfl ?_) | (refine wpl_build rfl 25 _ rfl [] rfl _ builtIt0 ?_) | (refine wpl_alloc rfl 25 rfl _ zeroIt ?_))
        exact ret_it rfl rfl w.heap.size rfl _ rfl 0 (.slice none 0 0) 0 0 (b0.setRow _) rfl (HNo.out _ HD.out _ _ (Told.none (below_setRow hB0 (Nat.le_refl _) _)))
      have t5 : ¬ ((n - BG : Nat) : Int) < (N : Int) := by omega
      obtain ⟨BD, HBD⟩ : ∃ x, Hd ((b.drop BG).take N = x) := ⟨_, ⟨rfl⟩⟩
      obtain ⟨A3, HA3⟩ : ∃ x, Hd ((if c = BG then some ad else (some ad).map (·.add BG)) = x) := ⟨_, ⟨rfl⟩⟩
      obtain ⟨c3, Hc3⟩ : ∃ x, Hd (c - BG = x) := ⟨_, ⟨rfl⟩⟩
      have HN3 := hd (show BG + N - BG = N by omega)
      have HS3 := hd (fun (W : World) (ρ : Operand → Value) (o : Oper) (x y z : Operand) (ho : o.op = .slice 22 x (some y) (some z) none) (hx : ρ x = .slice (some ad) n c) (hy : ρ y = .int .i64 (BG : Int)) (hz : ρ z = .int .i64 ((BG + N : Nat) : Int)) => (by have h := run_slice_two (P := Tryd.prog) (w := W) ho Tryd.underlying22 u8_cell1 (some ad) n c BG (BG + N) hx hy hz (by omega) (by omega); rw [HA3.out, HN3.out, Hc3.out] at h; exact h : (execOp ρ o).run Tryd.prog W = .ok (.value (.slice A3 N c3)) W))
      have r3N : ReadsB w w.heap.size A3 N BD := by rw [← HBD.out, ← HA3.out]; exact (hr.drop hK1 hc).take (by omega)
      have HBl := hd r3N.len
      have HD := hd (show Der.next b k = ⟨x0, BD, k, 1 + K + N, 0⟩ by rw [HDn.out _ _ _ HL.out, HBG.out, if_neg (by simp), if_neg h5, HBD.out])
      go_upto_region 25 with fail
      refine v_start PR ((fun W => Below w.heap.size w W), (fun W => Blk W w.heap.size 25 (itemCells 0 (.slice none 0 0) 0 0))) (by kernel_rfl) (show PW _ (World.drew (w.alloc (.cells (itemCells 0 (.slice none 0 0) 0 0) 25))) from ⟨hB0.drew, b0.drew⟩) ?_
      refine p_take 0 (o := _) rfl (by kernel_rfl) (by kernel_rfl) (by kernel_rfl) (wanted_plain rfl) (.slice (some ad) n c) (fun _ _ _ h => h) (fun W hW => run_move (by rfl) (by simp [Act.eval]) W) ?_
      simp only [Act.put, List.getElem_toArray, List.getElem_cons_succ, List.getElem_cons_zero, List.setIfInBounds_toArray, List.set_cons_zero, List.set_cons_succ]
      refine p_take 1 (o := _) rfl (by kernel_rfl) (by kernel_rfl) (by kernel_rfl) (wanted_plain rfl) (.int .i64 (k : Int)) (fun _ _ _ h => h) (fun W hW => run_move (by rfl) (by simp [Act.eval]) W) ?_
      simp only [Act.put, List.getElem_toArray, List.getElem_cons_succ, List.getElem_cons_zero, List.setIfInBounds_toArray, List.set_cons_zero, List.set_cons_succ]
      refine p_take 2 (o := _) rfl (by kernel_rfl) (by kernel_rfl) (by kernel_rfl) (wanted_plain rfl) (.pointer (some (ad.add k))) (fun _ _ _ h => h) (fun W hW => by go_simp) ?_
      simp only [Act.put, List.getElem_toArray, List.getElem_cons_succ, List.getElem_cons_zero, List.setIfInBounds_toArray, List.set_cons_zero, List.set_cons_succ]
      refine p_take 3 (o := _) rfl (by kernel_rfl) (by kernel_rfl) (by kernel_rfl) (wanted_plain rfl) (.int .u8 ((n8 x0 : Nat) : Int)) (fun _ _ _ h => h) (fun W hW => by have h1 := (hW.cell (p := ad.add k) (by rw [block_of_add]; exact had)).trans hc0; go_simp) ?_
      simp only [Act.put, List.getElem_toArray, List.getElem_cons_succ, List.getElem_cons_zero, List.setIfInBounds_toArray, List.set_cons_zero, List.set_cons_succ]
      refine p_take 5 (o := _) rfl (by kernel_rfl) (by kernel_rfl) (by kernel_rfl) (wanted_plain rfl) (.slice (some ad) n c) (fun _ _ _ h => h) (fun W hW => run_move (by rfl) (by simp [Act.eval]) W) ?_
      simp only [Act.put, List.getElem_toArray, List.getElem_cons_succ, List.getElem_cons_zero, List.setIfInBounds_toArray, List.set_cons_zero, List.set_cons_succ]
      refine p_take 6 (o := _) rfl (by kernel_rfl) (by kernel_rfl) (by kernel_rfl) (wanted_plain rfl) (.int .i64 (BG : Int)) (fun _ _ _ h => h) (fun W hW => run_move (by rfl) (by simp [Act.eval]) W) ?_
      simp only [Act.put, List.getElem_toArray, List.getElem_cons_succ, List.getElem_cons_zero, List.setIfInBounds_toArray, List.set_cons_zero, List.set_cons_succ]
      refine p_take 7 (o := _) rfl (by kernel_rfl) (by kernel_rfl) (by kernel_rfl) (wanted_plain rfl) (.int .i64 (BG : Int)) (fun _ _ _ h => h) (fun W hW => run_move (by rfl) (by simp [Act.eval]) W) ?_
      simp only [Act.put, List.getElem_toArray, List.getElem_cons_succ, List.getElem_cons_zero, List.setIfInBounds_toArray, List.set_cons_zero, List.set_cons_succ]
      refine p_take 8 (o := _) rfl (by kernel_rfl) (by kernel_rfl) (by kernel_rfl) (wanted_plain rfl) (.int .i64 (N : Int)) (fun _ _ _ h => h) (fun W hW => run_move (by rfl) (by simp [Act.eval]) W) ?_
      simp only [Act.put, List.getElem_toArray, List.getElem_cons_succ, List.getElem_cons_zero, List.setIfInBounds_toArray, List.set_cons_zero, List.set_cons_succ]
      refine p_take 9 (o := _) rfl (by kernel_rfl) (by kernel_rfl) (by kernel_rfl) (wanted_plain rfl) (.int .i64 ((BG + N : Nat) : Int)) (fun _ _ _ h => h) (fun W hW => run_add_nat (by rfl) BG N (by simp [Act.eval]) (by simp [Act.eval]) (by omega) W) ?_
      simp only [Act.put, List.getElem_toArray, List.getElem_cons_succ, List.getElem_cons_zero, List.setIfInBounds_toArray, List.set_cons_zero, List.set_cons_succ]
      refine p_take 10 (o := _) rfl (by kernel_rfl) (by kernel_rfl) (by kernel_rfl) (wanted_plain rfl) (.slice A3 N c3) (fun _ _ _ h => h) (fun W hW => HS3.out W _ _ _ _ _ (by rfl) (by simp [Act.eval]) (by simp [Act.eval]) (by simp [Act.eval])) ?_
      simp only [Act.put, List.getElem_toArray, List.getElem_cons_succ, List.getElem_cons_zero, List.setIfInBounds_toArray, List.set_cons_zero, List.set_cons_succ]
      refine p_take 12 (o := _) rfl (by kernel_rfl) (by kernel_rfl) (by kernel_rfl) (wanted_plain rfl) (.int .i64 (k : Int)) (fun _ _ _ h => h) (fun W hW => run_move (by rfl) (by simp [Act.eval]) W) ?_
      simp only [Act.put, List.getElem_toArray, List.getElem_cons_succ, List.getElem_cons_zero, List.setIfInBounds_toArray, List.set_cons_zero, List.set_cons_succ]
      refine p_take 13 (o := _) rfl (by kernel_rfl) (by kernel_rfl) (by kernel_rfl) (wanted_plain rfl) (.int .i64 (BG : Int)) (fun _ _ _ h => h) (fun W hW => run_move (by rfl) (by simp [Act.eval]) W) ?_
      simp only [Act.put, List.getElem_toArray, List.getElem_cons_succ, List.getElem_cons_zero, List.setIfInBounds_toArray, List.set_cons_zero, List.set_cons_succ]
      refine p_take 14 (o := _) rfl (by kernel_rfl) (by kernel_rfl) (by kernel_rfl) (wanted_plain rfl) (.int .i64 (N : Int)) (fun _ _ _ h => h) (fun W hW => run_move (by rfl) (by simp [Act.eval]) W) ?_
      simp only [Act.put, List.getElem_toArray, List.getElem_cons_succ, List.getElem_cons_zero, List.setIfInBounds_toArray, List.set_cons_zero, List.set_cons_succ]
      refine p_take 15 (o := _) rfl (by kernel_rfl) (by kernel_rfl) (by kernel_rfl) (wanted_plain rfl) (.int .i64 ((BG + N : Nat) : Int)) (fun _ _ _ h => h) (fun W hW => run_add_nat (by rfl) BG N (by simp [Act.eval]) (by simp [Act.eval]) (by omega) W) ?_
      simp only [Act.put, List.getElem_toArray, List.getElem_cons_succ, List.getElem_cons_zero, List.setIfInBounds_toArray, List.set_cons_zero, List.set_cons_succ]
      refine p_take 16 (o := _) rfl (by kernel_rfl) (by kernel_rfl) (by kernel_rfl) (wanted_plain rfl) (.int .i64 (k : Int)) (fun _ _ _ h => h) (fun W hW => run_move (by rfl) (by simp [Act.eval]) W) ?_
      simp only [Act.put, List.getElem_toArray, List.getElem_cons_succ, List.getElem_cons_zero, List.setIfInBounds_toArray, List.set_cons_zero, List.set_cons_succ]
      refine p_take 17 (o := _) rfl (by kernel_rfl) (by kernel_rfl) (by kernel_rfl) (wanted_plain rfl) (.int .i64 ((BG + N - k : Nat) : Int)) (fun _ _ _ h => h) (fun W hW => run_sub_nat (by rfl) (BG + N) k (by simp [Act.eval]) (by simp [Act.eval]) (by omega) (by have := HBG.out; omega) W) ?_
      simp only [Act.put, List.getElem_toArray, List.getElem_cons_succ, List.getElem_cons_zero, List.setIfInBounds_toArray, List.set_cons_zero, List.set_cons_succ]
      refine p_one 4 (by kernel_rfl) (fun W hW hX => ?_)
      refine op_do (o := _) rfl (wanted_plain rfl) (.slice (some ⟨W.heap.size, 0, none⟩) 0 0) (W.alloc (.cells #[] 5)) (by go_simp) ?_
      have own0 : OwnB (W.alloc (.cells #[] 5)) w.heap.size (.slice (some ⟨W.heap.size, 0, none⟩) 0 0) [] := OwnB.empty hW.size
      refine Next.mk (fun W' => Below w.heap.size w W') (fun W' => Blk W' w.heap.size 25 (itemCells 0 (.slice none 0 0) 0 0) ∧ OwnB W' w.heap.size (.slice (some ⟨W.heap.size, 0, none⟩) 0 0) []) (fun _ h => h) (hW.alloc hW.size _) ⟨hX.alloc _, own0⟩ ?_
      obtain ⟨g4, Hg4⟩ : ∃ y, Hd (W.heap.size = y) := ⟨_, ⟨rfl⟩⟩
      rw [Hg4.out]
      clear own0 Hg4 hW hX
      simp only [Act.put, List.getElem_toArray, List.getElem_cons_succ, List.getElem_cons_zero, List.setIfInBounds_toArray, List.set_cons_zero, List.set_cons_succ]
      refine p_one 11 (by kernel_rfl) (fun W hW hX => ?_)
      refine op_appendB rfl (o := _) rfl (wanted_plain rfl) _ _ rfl w.heap.size (.slice (some ⟨g4, 0, none⟩) 0 0) [] (by simp [Act.eval]) hX.2 w.heap.size A3 N c3 BD (by simp [Act.eval]) ⟨r3N.len, r3N.is.below hW⟩ (by rw [HBl.out]; simp; omega) hW.size ?_
      intro v1 W1 own1 gr1 at1
      rw [List.nil_append] at own1
      obtain ⟨Ab, cb, e1⟩ := own1.slice
      rw [HBl.out] at e1
      subst e1
      refine Next.mk (fun W => Below w.heap.size w W ∧ OwnB W w.heap.size (.slice Ab N cb) BD) (fun W => Blk W w.heap.size 25 (itemCells 0 (.slice none 0 0) 0 0)) (fun _ h => h.1) ⟨below_appended hW hX.2 gr1 (Nat.le_refl _) hW.size, own1⟩ (hX.1.appended hX.2 gr1 (by decide)) ?_
      clear own1 gr1 at1 hW hX
      simp only [Act.put, List.getElem_toArray, List.getElem_cons_succ, List.getElem_cons_zero, List.setIfInBounds_toArray, List.set_cons_zero, List.set_cons_succ]
      refine p_take 18 (o := _) rfl (by kernel_rfl) (by kernel_rfl) (by kernel_rfl) (wanted_plain rfl) (.agg (itemCells x0 (.slice Ab N cb) k ((BG + N - k : Nat) : Int))) (fun _ _ _ h => h) (fun W hW => run_build_ps2 (parts := [(0, .tmp 101), (1, .tmp 109), (2, .tmp 110), (3, .tmp 115)]) (by rfl) [(0, .int .u8 ((n8 x0 : Nat) : Int)), (1, .slice Ab N cb), (2, .int .i64 (k : Int)), (3, .int .i64 ((BG + N - k : Nat) : Int))] (by simp [Act.eval]) (builtIt _ _ _ _ _ _) W) ?_
      simp only [Act.put, List.getElem_toArray, List.getElem_cons_succ, List.getElem_cons_zero, List.setIfInBounds_toArray, List.set_cons_zero, List.set_cons_succ]
      refine p_one 19 (by kernel_rfl) (fun W hW hX => ?_)
      refine op_skip (o := _) rfl (wanted_plain rfl) (run_store_it (by rfl) w.heap.size x0 Ab N cb k ((BG + N - k : Nat) : Int) (by simp [Act.eval]) (by simp [Act.eval]) _ hX rfl) ?_
      have hg := grew_setRow (World.grownBy.refl W (some w.heap.size)) (itemCells x0 (.slice Ab N cb) k ((BG + N - k : Nat) : Int))
      have hne := own_blk_ne hW.2.own hX (by decide)
      refine Next.mk (fun W => Below w.heap.size w W ∧ OwnB W w.heap.size (.slice Ab N cb) BD) (fun W => Blk W w.heap.size 25 (itemCells x0 (.slice Ab N cb) k ((BG + N - k : Nat) : Int))) (fun _ h => h) ⟨below_setRow hW.1 (Nat.le_refl _) _, hW.2.moved hg hne⟩ (hX.setRow _) ?_
      clear hW hX hg hne
      simp only [Act.put, List.getElem_toArray, List.getElem_cons_succ, List.getElem_cons_zero, List.setIfInBounds_toArray, List.set_cons_zero, List.set_cons_succ]
      refine p_take 20 (o := _) rfl (by kernel_rfl) (by kernel_rfl) (by kernel_rfl) (wanted_plain rfl) (.int .i64 0) (fun _ _ _ h => h) (fun W hW => run_assign (by rfl) (by simp [Act.eval]) W) ?_
      simp only [Act.put, List.getElem_toArray, List.getElem_cons_succ, List.getElem_cons_zero, List.setIfInBounds_toArray, List.set_cons_zero, List.set_cons_succ]
      refine (show ∀ n, wpAnyV _ _ _ _ _ _ n _ _ _ from fun n => v_done (by kernel_rfl) (fun W hW => ?_) n) _
      go_wp2
      exact ret_it rfl rfl w.heap.size rfl (.int .i64 0) rfl x0 (.slice Ab N cb) k ((BG + N - k : Nat) : Int) hW.2 rfl (Told.mk ⟨Ab, cb, by rw [HBl.out, show BG + N - k = 1 + K + N by have := HBG.out; omega], by rw [HBl.out]; exact hW.1.2, hW.1.1⟩ (HX.out.symm.trans HD.out))
end Go.Proofs.YthkggeohdclffaaDoor
