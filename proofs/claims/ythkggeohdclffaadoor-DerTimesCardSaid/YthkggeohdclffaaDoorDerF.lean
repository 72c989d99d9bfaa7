/-
  The head of law 14: its time; the head.
-/
import Derived.Test.YthkggeohdclffaaDoorDerE
set_option linter.unusedVariables false
set_option linter.unusedSimpArgs false
set_option maxRecDepth 100000
namespace Go.Proofs.YthkggeohdclffaaDoor
open Go.RowKit
set_option maxHeartbeats 2000000 in
set_option maxRecDepth 100000 in
theorem dated_at (w : World) : Calls Tryd.prog 28 #[.int .i64 29220] w fun e w' => e = .returned (.tuple #[.int .i64 2050, .int .i64 1, .int .i64 1]) ∧ w = w' := by
  go_enter Tryd.func28, Tryd.ntmps28
  go_wp2
  go_ret3
  exact ⟨rfl, rfl⟩
def Der.stamp : List UInt8 := [50, 48, 53, 48, 48, 49, 48, 49, 48, 48, 48, 48, 48, 48]
theorem OwnB.lits2 {w : World} (a b : UInt8) : ReadsB (w.alloc (.cells #[.int .u8 ((n8 a : Nat) : Int), .int .u8 ((n8 b : Nat) : Int)] 5)) (w.alloc (.cells #[.int .u8 ((n8 a : Nat) : Int), .int .u8 ((n8 b : Nat) : Int)] 5)).heap.size (some ⟨w.heap.size, 0, none⟩) 2 [a, b] :=
  (OwnB.lits (w := w) [a, b] _ rfl (by simp)).reads
set_option maxHeartbeats 8000000 in
set_option maxRecDepth 100000 in
theorem putTime_at (w : World) : Calls Tryd.prog 16 #[.int .i64 2524608000] w fun e w' => ∃ v, e = .returned v ∧ OwnB w' w.heap.size v [24, 15, 50, 48, 53, 48, 48, 49, 48, 49, 48, 48, 48, 48, 48, 48, 90] ∧ Below w.heap.size w w' := by
  have hE0 : Below w.heap.size w (w.alloc (.cells #[.int .i64 20, .int .i64 50, .int .i64 1, .int .i64 1, .int .i64 0, .int .i64 0, .int .i64 0] 3)) := (Below.refl _ _).alloc (Nat.le_refl _) _
  have hb0 : Blk (w.alloc (.cells #[.int .i64 20, .int .i64 50, .int .i64 1, .int .i64 1, .int .i64 0, .int .i64 0, .int .i64 0] 3)) w.heap.size 3 #[.int .i64 20, .int .i64 50, .int .i64 1, .int .i64 1, .int .i64 0, .int .i64 0, .int .i64 0] := Blk.nu rfl
  go_enter Tryd.func16, Tryd.ntmps16
  go_wp2_with (first | (go_at_call 28; refine (dated_at w).mono ?_; rintro e w' ⟨rfl, rfl⟩))
  go_loopw [7, 9, 44] (fun v _ i wr => ∃ k : Nat, k ≤ 7 ∧ i = .int .i64 (k : Int) ∧ OwnB wr w.heap.size v (Der.stamp.take (2 * k)) ∧ Blk wr w.heap.size 3 #[.int .i64 20, .int .i64 50, .int .i64 1, .int .i64 1, .int .i64 0, .int .i64 0, .int .i64 0] ∧ Below w.heap.size w wr) (fun _ _ i _ => (7 - intOf i).toNat)
  case atStart => exact ⟨0, by omega, rfl, OwnB.nil _ _, hb0, hE0⟩
  case round =>
    clear hb0 hE0
    obtain ⟨k, hk, rfl, own, hb, hB⟩ := hrel
    have Own := hd own
    have HB := hd hB
    clear own
    rcases (show k = 0 ∨ k = 1 ∨ k = 2 ∨ k = 3 ∨ k = 4 ∨ k = 5 ∨ k = 6 ∨ k = 7 by omega) with rfl | rfl | rfl | rfl | rfl | rfl | rfl | rfl
    · have c : wr.cell? ⟨w.heap.size, 0, none⟩ = some (.int .i64 20) := hb.cell 0
      have Hbl := hd hb
      have hE := hd (show Below wr.heap.size wr (wr.alloc (.cells #[.int .u8 50, .int .u8 48] 5)) from (Below.refl _ _).alloc (Nat.le_refl _) _)
      have HR := hd (show ReadsB (wr.alloc (.cells #[.int .u8 50, .int .u8 48] 5)) (wr.alloc (.cells #[.int .u8 50, .int .u8 48] 5)).heap.size (some ⟨wr.heap.size, 0, none⟩) 2 [50, 48] from OwnB.lits2 50 48)
      clear hb hB
      go_wp2_with (first | (at_builtin; refine wpl_appendB rfl _ _ rfl w.heap.size u7 (Der.stamp.take (2 * 0)) rfl (Own.out.alloc _) _ (some ⟨wr.heap.size, 0, none⟩) 2 2 [50, 48] rfl HR.out (by decide) (by have := HB.out.size; have := hE.out.size; omega) ?_; intro v2 w2 own2 gr2 at2; have hb2 := (Hbl.out.alloc (.cells #[.int .u8 50, .int .u8 48] 5)).appended (Own.out.alloc _) gr2 (by decide); have hB2 := below_appended (HB.out.alloc HB.out.size (.cells #[.int .u8 50, .int .u8 48] 5)) (Own.out.alloc _) gr2 (Nat.le_refl _) (by have := HB.out.size; have := hE.out.size; omega)))
      go_roundw
      case rel => exact ⟨1, by omega, rfl, own2, hb2, hB2⟩
      case measure => simp [intOf]
    · have c : wr.cell? ⟨w.heap.size, 1, none⟩ = some (.int .i64 50) := hb.cell 1
      have Hbl := hd hb
      have hE := hd (show Below wr.heap.size wr (wr.alloc (.cells #[.int .u8 53, .int .u8 48] 5)) from (Below.refl _ _).alloc (Nat.le_refl _) _)
      have HR := hd (show ReadsB (wr.alloc (.cells #[.int .u8 53, .int .u8 48] 5)) (wr.alloc (.cells #[.int .u8 53, .int .u8 48] 5)).heap.size (some ⟨wr.heap.size, 0, none⟩) 2 [53, 48] from OwnB.lits2 53 48)
      clear hb hB
      go_wp2_with (first | (at_builtin; refine wpl_appendB rfl _ _ rfl w.heap.size u7 (Der.stamp.take (2 * 1)) rfl (Own.out.alloc _) _ (some ⟨wr.heap.size, 0, none⟩) 2 2 [53, 48] rfl HR.out (by decide) (by have := HB.out.size; have := hE.out.size; omega) ?_; intro v2 w2 own2 gr2 at2; have hb2 := (Hbl.out.alloc (.cells #[.int .u8 53, .int .u8 48] 5)).appended (Own.out.alloc _) gr2 (by decide); have hB2 := below_appended (HB.out.alloc HB.out.size (.cells #[.int .u8 53, .int .u8 48] 5)) (Own.out.alloc _) gr2 (Nat.le_refl _) (by have := HB.out.size; have := hE.out.size; omega)))
      go_roundw
      case rel => exact ⟨2, by omega, rfl, own2, hb2, hB2⟩
      case measure => simp [intOf]
    · have c : wr.cell? ⟨w.heap.size, 2, none⟩ = some (.int .i64 1) := hb.cell 2
      have Hbl := hd hb
      have hE := hd (show Below wr.heap.size wr (wr.alloc (.cells #[.int .u8 48, .int .u8 49] 5)) from (Below.refl _ _).alloc (Nat.le_refl _) _)
      have HR := hd (show ReadsB (wr.alloc (.cells #[.int .u8 48, .int .u8 49] 5)) (wr.alloc (.cells #[.int .u8 48, .int .u8 49] 5)).heap.size (some ⟨wr.heap.size, 0, none⟩) 2 [48, 49] from OwnB.lits2 48 49)
      clear hb hB
      go_wp2_with (first | (at_builtin; refine wpl_appendB rfl _ _ rfl w.heap.size u7 (Der.stamp.take (2 * 2)) rfl (Own.out.alloc _) _ (some ⟨wr.heap.size, 0, none⟩) 2 2 [48, 49] rfl HR.out (by decide) (by have := HB.out.size; have := hE.out.size; omega) ?_; intro v2 w2 own2 gr2 at2; have hb2 := (Hbl.out.alloc (.cells #[.int .u8 48, .int .u8 49] 5)).appended (Own.out.alloc _) gr2 (by decide); have hB2 := below_appended (HB.out.alloc HB.out.size (.cells #[.int .u8 48, .int .u8 49] 5)) (Own.out.alloc _) gr2 (Nat.le_refl _) (by have := HB.out.size; have := hE.out.size; omega)))
      go_roundw
      case rel => exact ⟨3, by omega, rfl, own2, hb2, hB2⟩
      case measure => simp [intOf]
    · have c : wr.cell? ⟨w.heap.size, 3, none⟩ = some (.int .i64 1) := hb.cell 3
      have Hbl := hd hb
      have hE := hd (show Below wr.heap.size wr (wr.alloc (.cells #[.int .u8 48, .int .u8 49] 5)) from (Below.refl _ _).alloc (Nat.le_refl _) _)
      have HR := hd (show ReadsB (wr.alloc (.cells #[.int .u8 48, .int .u8 49] 5)) (wr.alloc (.cells #[.int .u8 48, .int .u8 49] 5)).heap.size (some ⟨wr.heap.size, 0, none⟩) 2 [48, 49] from OwnB.lits2 48 49)
      clear hb hB
      go_wp2_with (first | (at_builtin; refine wpl_appendB rfl _ _ rfl w.heap.size u7 (Der.stamp.take (2 * 3)) rfl (Own.out.alloc _) _ (some ⟨wr.heap.size, 0, none⟩) 2 2 [48, 49] rfl HR.out (by decide) (by have := HB.out.size; have := hE.out.size; omega) ?_; intro v2 w2 own2 gr2 at2; have hb2 := (Hbl.out.alloc (.cells #[.int .u8 48, .int .u8 49] 5)).appended (Own.out.alloc _) gr2 (by decide); have hB2 := below_appended (HB.out.alloc HB.out.size (.cells #[.int .u8 48, .int .u8 49] 5)) (Own.out.alloc _) gr2 (Nat.le_refl _) (by have := HB.out.size; have := hE.out.size; omega)))
      go_roundw
      case rel => exact ⟨4, by omega, rfl, own2, hb2, hB2⟩
      case measure => simp [intOf]
    · have c : wr.cell? ⟨w.heap.size, 4, none⟩ = some (.int .i64 0) := hb.cell 4
      have Hbl := hd hb
      have hE := hd (show Below wr.heap.size wr (wr.alloc (.cells #[.int .u8 48, .int .u8 48] 5)) from (Below.refl _ _).alloc (Nat.le_refl _) _)
      have HR := hd (show ReadsB (wr.alloc (.cells #[.int .u8 48, .int .u8 48] 5)) (wr.alloc (.cells #[.int .u8 48, .int .u8 48] 5)).heap.size (some ⟨wr.heap.size, 0, none⟩) 2 [48, 48] from OwnB.lits2 48 48)
      clear hb hB
      go_wp2_with (first | (at_builtin; refine wpl_appendB rfl _ _ rfl w.heap.size u7 (Der.stamp.take (2 * 4)) rfl (Own.out.alloc _) _ (some ⟨wr.heap.size, 0, none⟩) 2 2 [48, 48] rfl HR.out (by decide) (by have := HB.out.size; have := hE.out.size; omega) ?_; intro v2 w2 own2 gr2 at2; have hb2 := (Hbl.out.alloc (.cells #[.int .u8 48, .int .u8 48] 5)).appended (Own.out.alloc _) gr2 (by decide); have hB2 := below_appended (HB.out.alloc HB.out.size (.cells #[.int .u8 48, .int .u8 48] 5)) (Own.out.alloc _) gr2 (Nat.le_refl _) (by have := HB.out.size; have := hE.out.size; omega)))
      go_roundw
      case rel => exact ⟨5, by omega, rfl, own2, hb2, hB2⟩
      case measure => simp [intOf]
    · have c : wr.cell? ⟨w.heap.size, 5, none⟩ = some (.int .i64 0) := hb.cell 5
      have Hbl := hd hb
      have hE := hd (show Below wr.heap.size wr (wr.alloc (.cells #[.int .u8 48, .int .u8 48] 5)) from (Below.refl _ _).alloc (Nat.le_refl _) _)
      have HR := hd (show ReadsB (wr.alloc (.cells #[.int .u8 48, .int .u8 48] 5)) (wr.alloc (.cells #[.int .u8 48, .int .u8 48] 5)).heap.size (some ⟨wr.heap.size, 0, none⟩) 2 [48, 48] from OwnB.lits2 48 48)
      clear hb hB
      go_wp2_with (first | (at_builtin; refine wpl_appendB rfl _ _ rfl w.heap.size u7 (Der.stamp.take (2 * 5)) rfl (Own.out.alloc _) _ (some ⟨wr.heap.size, 0, none⟩) 2 2 [48, 48] rfl HR.out (by decide) (by have := HB.out.size; have := hE.out.size; omega) ?_; intro v2 w2 own2 gr2 at2; have hb2 := (Hbl.out.alloc (.cells #[.int .u8 48, .int .u8 48] 5)).appended (Own.out.alloc _) gr2 (by decide); have hB2 := below_appended (HB.out.alloc HB.out.size (.cells #[.int .u8 48, .int .u8 48] 5)) (Own.out.alloc _) gr2 (Nat.le_refl _) (by have := HB.out.size; have := hE.out.size; omega)))
      go_roundw
      case rel => exact ⟨6, by omega, rfl, own2, hb2, hB2⟩
      case measure => simp [intOf]
    · have c : wr.cell? ⟨w.heap.size, 6, none⟩ = some (.int .i64 0) := hb.cell 6
      have Hbl := hd hb
      have hE := hd (show Below wr.heap.size wr (wr.alloc (.cells #[.int .u8 48, .int .u8 48] 5)) from (Below.refl _ _).alloc (Nat.le_refl _) _)
      have HR := hd (show ReadsB (wr.alloc (.cells #[.int .u8 48, .int .u8 48] 5)) (wr.alloc (.cells #[.int .u8 48, .int .u8 48] 5)).heap.size (some ⟨wr.heap.size, 0, none⟩) 2 [48, 48] from OwnB.lits2 48 48)
      clear hb hB
      go_wp2_with (first | (at_builtin; refine wpl_appendB rfl _ _ rfl w.heap.size u7 (Der.stamp.take (2 * 6)) rfl (Own.out.alloc _) _ (some ⟨wr.heap.size, 0, none⟩) 2 2 [48, 48] rfl HR.out (by decide) (by have := HB.out.size; have := hE.out.size; omega) ?_; intro v2 w2 own2 gr2 at2; have hb2 := (Hbl.out.alloc (.cells #[.int .u8 48, .int .u8 48] 5)).appended (Own.out.alloc _) gr2 (by decide); have hB2 := below_appended (HB.out.alloc HB.out.size (.cells #[.int .u8 48, .int .u8 48] 5)) (Own.out.alloc _) gr2 (Nat.le_refl _) (by have := HB.out.size; have := hE.out.size; omega)))
      go_roundw
      case rel => exact ⟨7, by omega, rfl, own2, hb2, hB2⟩
      case measure => simp [intOf]
    · have hE := hd (show Below wr.heap.size wr (wr.alloc (.cells #[.int .u8 90] 5)) from (Below.refl _ _).alloc (Nat.le_refl _) _)
      have HR := hd (show ReadsB (wr.alloc (.cells #[.int .u8 90] 5)) (wr.alloc (.cells #[.int .u8 90] 5)).heap.size (some ⟨wr.heap.size, 0, none⟩) 1 [90] from (OwnB.lits (w := wr) [90] _ rfl (by simp)).reads)
      have Own7 := hd (show OwnB wr w.heap.size u7 Der.stamp from Own.out)
      clear hb hB
      go_wp2_with (first | (go_at_call 9; refine (put_any 24 (some ⟨w2.heap.size, 0, none⟩) 1 1 [⟨A2, 15, c2, Der.stamp ++ [90]⟩] _ hp.out (by omega) (by rw [joined_one]; show (Der.stamp ++ [90]).length ≤ _; decide)).mono ?_; rintro e w3 ⟨v3, rfl, own3, hB3⟩) | (at_builtin; go_loud (refine wpl_appendB rfl _ _ rfl w.heap.size u7 Der.stamp rfl (Own7.out.alloc _) _ (some ⟨wr.heap.size, 0, none⟩) 1 1 [90] rfl HR.out (by decide) (by have := HB.out.size; have := hE.out.size; omega) ?_; intro v2 w2 own2 gr2 at2; have hB2 := below_appended (HB.out.alloc HB.out.size (.cells #[.int .u8 90] 5)) (Own7.out.alloc _) gr2 (Nat.le_refl _) (by have := HB.out.size; have := hE.out.size; omega); obtain ⟨A2, c2, e2⟩ := own2.slice; rw [show List.length (Der.stamp ++ ([90] : List UInt8)) = 15 from rfl] at e2; subst e2; have hp := hd (parts_one (c := c2) (show ReadsB w2 w2.heap.size A2 15 (Der.stamp ++ [90]) from ⟨by decide, own2.reads_any.2.is⟩) (by omega)))))
      go_ret
      have hA : Below w2.heap.size w2 (w2.alloc (.cells #[.slice A2 15 c2] 22)) := (Below.refl _ _).alloc (Nat.le_refl _) _
      have hBA := hB2.trans (hA.mono hB2.size)
      refine ⟨_, rfl, ?_, hBA.trans (hB3.mono hBA.size)⟩
      have e : Der.put 24 (joined [⟨A2, 15, c2, Der.stamp ++ [90]⟩]) = [24, 15, 50, 48, 53, 48, 48, 49, 48, 49, 48, 48, 48, 48, 48, 48, 90] := by rw [joined_one]; show Der.put 24 (Der.stamp ++ [90]) = _; decide +kernel
      rw [e] at own3
      exact own3.low hBA.size
set_option maxHeartbeats 4000000 in
set_option maxRecDepth 100000 in
theorem head14_any (w : World) (htab : Lib.TabIs Tryd.prog w "internal/strconv.uint64pow10" .u64 Lib.pow10Tab) : Calls Tryd.prog 7 #[] w fun e w' => e = .returned (.bool true) ∧ Below w.heap.size w w' := by
  have hE : Below w.heap.size w (w.alloc (.cells (arr Der.oidBytes) 5)) := (Below.refl _ _).alloc (Nat.le_refl _) _
  have HO := hd (oid_head w.heap.size (w.alloc (.cells (arr Der.oidBytes) 5)) (Blk.nu rfl) (tabIs_below htab hE))
  have HE := hd hE
  clear hE
  go_enter Tryd.func7, Tryd.ntmps7
  go_wp2_with (first | (refine wpl_run (o := ⟨some 17, _, _, _, _, _⟩) (by simp [Region.wanted, yielded, Act.put]) (.bool true) (run_eqT (by rfl) [24, 15, 50, 48, 53, 48, 48, 49, 48, 49, 48, 48, 48, 48, 48, 48, 90] [24, 15, 50, 48, 53, 48, 48, 49, 48, 49, 48, 48, 48, 48, 48, 48, 90] rfl (by simp [Act.eval, Act.put]) (by simp [Act.eval, Act.put]; rfl) _) ?_) | (refine wpl_run (o := ⟨some 16, _, _, _, _, _⟩) (by simp [Region.wanted, yielded, Act.put]) (.string (str [24, 15, 50, 48, 53, 48, 48, 49, 48, 49, 48, 48, 48, 48, 48, 48, 90])) (run_toStr (by rfl) Tryd.underlying22 Tryd.underlying5 Tryd.underlying9 _ A2 17 c2 [24, 15, 50, 48, 53, 48, 48, 49, 48, 49, 48, 48, 48, 48, 48, 48, 90] (by simp [Act.eval, Act.put]) ⟨by decide, own2.reads_any.2.is⟩) ?_) | (go_at_call 16; refine (putTime_at w1).mono ?_; rintro e w2 ⟨v2, rfl, own2, hB2⟩; obtain ⟨A2, c2, e2⟩ := own2.slice; rw [show ([24, 15, 50, 48, 53, 48, 48, 49, 48, 49, 48, 48, 48, 48, 48, 48, 90] : List UInt8).length = 17 by decide] at e2; subst e2) | (refine wpl_run (o := ⟨some 12, _, _, _, _, _⟩) (by simp [Region.wanted, yielded, Act.put]) (.bool true) (run_eqT (by rfl) [49, 46, 50, 46, 56, 52, 48, 46, 49, 48, 48, 52, 53, 46, 50, 46, 49] [49, 46, 50, 46, 56, 52, 48, 46, 49, 48, 48, 52, 53, 46, 50, 46, 49] rfl (by simp [Act.eval, Act.put]) (by simp [Act.eval, Act.put]; rfl) _) ?_) | (go_at_call 18; refine HO.out.mono ?_; rintro e w1 ⟨rfl, hB1⟩; have hBw1 := HE.out.trans (hB1.mono HE.out.size)))
  go_ret
  exact ⟨rfl, hBw1.trans (hB2.mono hBw1.size)⟩
end Go.Proofs.YthkggeohdclffaaDoor
