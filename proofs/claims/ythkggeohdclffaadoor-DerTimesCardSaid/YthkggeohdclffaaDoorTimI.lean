/-
  The walk of der.PutTime.
-/
import Derived.Test.YthkggeohdclffaaDoorTimH
import Derived.Test.YthkggeohdclffaaDoorDerF
import Derived.Test.YthkggeohdclffaaDoorDerM
set_option linter.unusedVariables false
set_option linter.unusedSimpArgs false
set_option maxRecDepth 100000
namespace Go.Proofs.YthkggeohdclffaaDoor
open Go.RowKit
/-- What a writer of times answers. -/
def PutSaid (t : Int) (w : World) (e : Ending) (w' : World) : Prop := ∃ v, e = .returned v ∧ (Cal.InRange t → OwnB w' w.heap.size v (Cal.putT t)) ∧ (¬ Cal.InRange t → v = .slice none 0 0) ∧ Below w.heap.size w w'
set_option maxHeartbeats 16000000 in
set_option maxRecDepth 100000 in
theorem putTime_any (t : Int) (ht : -9223372036854775808 ≤ t ∧ t ≤ 9223372036854775807) (w : World) : Calls Tryd.prog 16 #[.int .i64 t] w (PutSaid t w) := by
  by_cases h1 : t < -62135596800
  · have hno := hd (show ¬ Cal.InRange t from fun h => by have := h.1; omega)
    go_enter Tryd.func16, Tryd.ntmps16
    go_wp2
    go_ret
    exact ⟨_, rfl, fun h => absurd h hno.out, fun _ => rfl, Below.refl _ _⟩
  by_cases h2 : 253402300799 < t
  · have hno := hd (show ¬ Cal.InRange t from fun h => by have := h.2; omega)
    go_enter Tryd.func16, Tryd.ntmps16
    go_wp2
    go_ret
    exact ⟨_, rfl, fun h => absurd h hno.out, fun _ => rfl, Below.refl _ _⟩
  have hin : Cal.InRange t := ⟨by omega, by omega⟩
  have Hin := hd hin
  obtain ⟨hn1, hr1, hr2, hn2, hn3⟩ := Cal.dayN_is hin
  obtain ⟨_, hv, _, hy1, hy2, hyi⟩ := Cal.dayN_date hin
  obtain ⟨hml, hdl⟩ := Cal.date_le hv
  have HP0 := hd (show Cal.putT t = if 1950 ≤ Cal.yOf (Cal.dayN t) ∧ Cal.yOf (Cal.dayN t) < 2050 then Der.put 23 ((Cal.T14 t).drop 2 ++ [90]) else Der.put 24 (Cal.T14 t ++ [90]) from rfl)
  have HT0 := hd (show Cal.T14 t = Cal.wT (Cal.yOf (Cal.dayN t)) (Cal.mOf (Cal.dayN t)) (Cal.dOf (Cal.dayN t)) (Cal.secN t / 3600) (Cal.secN t / 60 % 60) (Cal.secN t % 60) from rfl)
  clear hv hin
  obtain ⟨n, Hn⟩ : ∃ z, Hd (Cal.dayN t = z) := ⟨_, ⟨rfl⟩⟩
  obtain ⟨R, HRr⟩ : ∃ z, Hd (Cal.secN t = z) := ⟨_, ⟨rfl⟩⟩
  rw [Hn.out] at hn1 hn2 hn3 hy1 hy2 hyi hml hdl HP0 HT0
  rw [HRr.out] at hr1 hr2 HT0
  have HD := hd (dated_any n (by omega) w)
  obtain ⟨Y, HY⟩ : ∃ z, Hd (Cal.yOf n = z) := ⟨_, ⟨rfl⟩⟩
  obtain ⟨M, HM⟩ : ∃ z, Hd (Cal.mOf n = z) := ⟨_, ⟨rfl⟩⟩
  obtain ⟨D, HDd⟩ : ∃ z, Hd (Cal.dOf n = z) := ⟨_, ⟨rfl⟩⟩
  rw [hyi] at HD
  rw [HY.out, HM.out, HDd.out] at HD HT0
  rw [HY.out] at HP0 hy1 hy2
  rw [HM.out] at hml
  rw [HDd.out] at hdl
  obtain ⟨r1, Hr1⟩ : ∃ z, Hd (t.tmod 86400 = z) := ⟨_, ⟨rfl⟩⟩
  have hrr : -86400 < r1 ∧ r1 < 86400 ∧ (r1 + 86400) % 86400 = (R : Int) := by
    have h3 := Hr1.out
    have h5 := Int.mul_tdiv_add_tmod t 86400
    have h6 := Int.tmod_lt_of_pos t (show (0 : Int) < 86400 by decide)
    have h7 := Int.lt_tmod_of_pos t (show (0 : Int) < 86400 by decide)
    omega
  have f1 : t.tmod 86400 = r1 := Hr1.out
  have f2 := hrr.1
  have f3 := hrr.2.1
  have f4 := hrr.2.2
  have f5 : (t - (R : Int)).tdiv 86400 = (n : Int) - 2180438 := by
    have e : t - (R : Int) = 86400 * ((n : Int) - 2180438) := by omega
    rw [e, Int.mul_tdiv_cancel_left _ (by decide)]
  obtain ⟨T, HT14⟩ : ∃ z, Hd (Cal.T14 t = z) := ⟨_, ⟨rfl⟩⟩
  rw [HT14.out] at HT0 HP0
  obtain ⟨v0, Hv0⟩ : ∃ z, Hd (Y / 100 = z) := ⟨_, ⟨rfl⟩⟩
  have g0 : v0 ≤ 99 := by have := Hv0.out; omega
  obtain ⟨v1, Hv1⟩ : ∃ z, Hd (Y % 100 = z) := ⟨_, ⟨rfl⟩⟩
  have g1 : v1 ≤ 99 := by have := Hv1.out; omega
  obtain ⟨v2, Hv2⟩ : ∃ z, Hd (M = z) := ⟨_, ⟨rfl⟩⟩
  have g2 : v2 ≤ 99 := by have := Hv2.out; omega
  obtain ⟨v3, Hv3⟩ : ∃ z, Hd (D = z) := ⟨_, ⟨rfl⟩⟩
  have g3 : v3 ≤ 99 := by have := Hv3.out; omega
  obtain ⟨v4, Hv4⟩ : ∃ z, Hd (R / 3600 = z) := ⟨_, ⟨rfl⟩⟩
  have g4 : v4 ≤ 99 := by have := Hv4.out; omega
  obtain ⟨v5, Hv5⟩ : ∃ z, Hd (R / 60 % 60 = z) := ⟨_, ⟨rfl⟩⟩
  have g5 : v5 ≤ 99 := by have := Hv5.out; omega
  obtain ⟨v6, Hv6⟩ : ∃ z, Hd (R % 60 = z) := ⟨_, ⟨rfl⟩⟩
  have g6 : v6 ≤ 99 := by have := Hv6.out; omega
  have x0 : (Y : Int) / 100 = (v0 : Int) := by have := Hv0.out; omega
  have x1 : (Y : Int) % 100 = (v1 : Int) := by have := Hv1.out; omega
  have x4 : (R : Int) / 3600 = (v4 : Int) := by have := Hv4.out; omega
  have x5 : (R : Int) / 60 % 60 = (v5 : Int) := by have := Hv5.out; omega
  have x6 : (R : Int) % 60 = (v6 : Int) := by have := Hv6.out; omega
  unfold Cal.wT at HT0
  rw [Hv0.out, Hv1.out, Hv4.out, Hv5.out, Hv6.out] at HT0
  obtain rfl : M = v2 := Hv2.out
  obtain rfl : D = v3 := Hv3.out
  replace HT14 := hd HT0.out.symm
  clear hrr Hv0 Hv1 Hv2 Hv3 Hv4 Hv5 Hv6 HT0 hn1 hr1 hyi Hr1
  rename_i Hx
  go_enter Tryd.func16, Tryd.ntmps16
  go_upto_block 0 with (first | (go_at_call 28; refine HD.out.mono ?_; rintro e w5 ⟨rfl, e5⟩; rw [e5]; clear e5 w5))
  have hb0 : Blk (w.alloc (.cells #[.int .i64 (v0 : Int), .int .i64 (v1 : Int), .int .i64 (M : Int), .int .i64 (D : Int), .int .i64 (v4 : Int), .int .i64 (v5 : Int), .int .i64 (v6 : Int)] 3)) w.heap.size 3 #[.int .i64 (v0 : Int), .int .i64 (v1 : Int), .int .i64 (M : Int), .int .i64 (D : Int), .int .i64 (v4 : Int), .int .i64 (v5 : Int), .int .i64 (v6 : Int)] := Blk.nu rfl
  have hB0 : Below w.heap.size w (w.alloc (.cells #[.int .i64 (v0 : Int), .int .i64 (v1 : Int), .int .i64 (M : Int), .int .i64 (D : Int), .int .i64 (v4 : Int), .int .i64 (v5 : Int), .int .i64 (v6 : Int)] 3)) := (Below.refl _ _).alloc (Nat.le_refl _) _
  go_wp2_with fail
  go_loopw [7, 44] (fun s7 s44 wr => ∃ k : Nat, k ≤ 7 ∧ s44 = .int .i64 (k : Int) ∧ OwnB wr w.heap.size s7 (T.take (2 * k)) ∧ Blk wr w.heap.size 3 #[.int .i64 (v0 : Int), .int .i64 (v1 : Int), .int .i64 (M : Int), .int .i64 (D : Int), .int .i64 (v4 : Int), .int .i64 (v5 : Int), .int .i64 (v6 : Int)] ∧ Below w.heap.size w wr) (fun _ s44 _ => 7 - (intOf s44).toNat)
  case atStart => exact ⟨0, by omega, rfl, OwnB.nil _ _, hb0, hB0⟩
  case round =>
    clear hb0 hB0 f1 f2 f3 f4 f5 x0 x1 x4 x5 x6
    obtain ⟨k, hk, rfl, own, hb, hB⟩ := hrel
    have Own := hd own
    have HB := hd hB
    clear own
    rcases (show k = 0 ∨ k = 1 ∨ k = 2 ∨ k = 3 ∨ k = 4 ∨ k = 5 ∨ k = 6 ∨ k = 7 by omega) with rfl | rfl | rfl | rfl | rfl | rfl | rfl | rfl
    · have c : wr.cell? ⟨w.heap.size, 0, none⟩ = some (.int .i64 (v0 : Int)) := hb.cell 0
      obtain ⟨a, Ha⟩ : ∃ z, Hd (Cal.d1 v0 = z) := ⟨_, ⟨rfl⟩⟩
      obtain ⟨b, Hb⟩ : ∃ z, Hd (Cal.d0 v0 = z) := ⟨_, ⟨rfl⟩⟩
      have e1 : 48 + (v0 : Int) / 10 = ((n8 a : Nat) : Int) := by have h1 := Cal.d1_is v0 (by omega); rw [Ha.out] at h1; omega
      have e2 : 48 + (v0 : Int) % 10 = ((n8 b : Nat) : Int) := by have h1 := Cal.d0_is v0; rw [Hb.out] at h1; omega
      have na := n8_lt a
      have nb := n8_lt b
      have Hbl := hd hb
      have hE := hd (show Below wr.heap.size wr (wr.alloc (.cells #[.int .u8 ((n8 a : Nat) : Int), .int .u8 ((n8 b : Nat) : Int)] 5)) from (Below.refl _ _).alloc (Nat.le_refl _) _)
      have HR := hd (show ReadsB (wr.alloc (.cells #[.int .u8 ((n8 a : Nat) : Int), .int .u8 ((n8 b : Nat) : Int)] 5)) (wr.alloc (.cells #[.int .u8 ((n8 a : Nat) : Int), .int .u8 ((n8 b : Nat) : Int)] 5)).heap.size (some ⟨wr.heap.size, 0, none⟩) 2 [a, b] from OwnB.lits2 a b)
      have HT := hd (show T.take (2 * 0) ++ [a, b] = T.take (2 * 1) by rw [← HT14.out, ← Ha.out, ← Hb.out]; rfl)
      have HTl := hd (show (T.take (2 * 0)).length + 2 ≤ 140737488355328 by rw [List.length_take]; omega)
      clear hb hB
      go_wp2_with (first | (at_builtin; refine wpl_appendB rfl _ _ rfl w.heap.size u7 (T.take (2 * 0)) rfl (Own.out.alloc _) _ (some ⟨wr.heap.size, 0, none⟩) 2 2 [a, b] rfl HR.out HTl.out (by have := HB.out.size; have := hE.out.size; omega) ?_; intro v2 w2 own2 gr2 at2; have hb2 := (Hbl.out.alloc (.cells #[.int .u8 ((n8 a : Nat) : Int), .int .u8 ((n8 b : Nat) : Int)] 5)).appended (Own.out.alloc _) gr2 (by decide); have hB2 := below_appended (HB.out.alloc HB.out.size (.cells #[.int .u8 ((n8 a : Nat) : Int), .int .u8 ((n8 b : Nat) : Int)] 5)) (Own.out.alloc _) gr2 (Nat.le_refl _) (by have := HB.out.size; have := hE.out.size; omega)))
      rw [HT.out] at own2
      go_roundw
      case rel => exact ⟨1, by omega, rfl, own2, hb2, hB2⟩
      case measure => simp [intOf]
    · have c : wr.cell? ⟨w.heap.size, 1, none⟩ = some (.int .i64 (v1 : Int)) := hb.cell 1
      obtain ⟨a, Ha⟩ : ∃ z, Hd (Cal.d1 v1 = z) := ⟨_, ⟨rfl⟩⟩
      obtain ⟨b, Hb⟩ : ∃ z, Hd (Cal.d0 v1 = z) := ⟨_, ⟨rfl⟩⟩
      have e1 : 48 + (v1 : Int) / 10 = ((n8 a : Nat) : Int) := by have h1 := Cal.d1_is v1 (by omega); rw [Ha.out] at h1; omega
      have e2 : 48 + (v1 : Int) % 10 = ((n8 b : Nat) : Int) := by have h1 := Cal.d0_is v1; rw [Hb.out] at h1; omega
      have na := n8_lt a
      have nb := n8_lt b
      have Hbl := hd hb
      have hE := hd (show Below wr.heap.size wr (wr.alloc (.cells #[.int .u8 ((n8 a : Nat) : Int), .int .u8 ((n8 b : Nat) : Int)] 5)) from (Below.refl _ _).alloc (Nat.le_refl _) _)
      have HR := hd (show ReadsB (wr.alloc (.cells #[.int .u8 ((n8 a : Nat) : Int), .int .u8 ((n8 b : Nat) : Int)] 5)) (wr.alloc (.cells #[.int .u8 ((n8 a : Nat) : Int), .int .u8 ((n8 b : Nat) : Int)] 5)).heap.size (some ⟨wr.heap.size, 0, none⟩) 2 [a, b] from OwnB.lits2 a b)
      have HT := hd (show T.take (2 * 1) ++ [a, b] = T.take (2 * 2) by rw [← HT14.out, ← Ha.out, ← Hb.out]; rfl)
      have HTl := hd (show (T.take (2 * 1)).length + 2 ≤ 140737488355328 by rw [List.length_take]; omega)
      clear hb hB
      go_wp2_with (first | (at_builtin; refine wpl_appendB rfl _ _ rfl w.heap.size u7 (T.take (2 * 1)) rfl (Own.out.alloc _) _ (some ⟨wr.heap.size, 0, none⟩) 2 2 [a, b] rfl HR.out HTl.out (by have := HB.out.size; have := hE.out.size; omega) ?_; intro v2 w2 own2 gr2 at2; have hb2 := (Hbl.out.alloc (.cells #[.int .u8 ((n8 a : Nat) : Int), .int .u8 ((n8 b : Nat) : Int)] 5)).appended (Own.out.alloc _) gr2 (by decide); have hB2 := below_appended (HB.out.alloc HB.out.size (.cells #[.int .u8 ((n8 a : Nat) : Int), .int .u8 ((n8 b : Nat) : Int)] 5)) (Own.out.alloc _) gr2 (Nat.le_refl _) (by have := HB.out.size; have := hE.out.size; omega)))
      rw [HT.out] at own2
      go_roundw
      case rel => exact ⟨2, by omega, rfl, own2, hb2, hB2⟩
      case measure => simp [intOf]
    · have c : wr.cell? ⟨w.heap.size, 2, none⟩ = some (.int .i64 (M : Int)) := hb.cell 2
      obtain ⟨a, Ha⟩ : ∃ z, Hd (Cal.d1 M = z) := ⟨_, ⟨rfl⟩⟩
      obtain ⟨b, Hb⟩ : ∃ z, Hd (Cal.d0 M = z) := ⟨_, ⟨rfl⟩⟩
      have e1 : 48 + (M : Int) / 10 = ((n8 a : Nat) : Int) := by have h1 := Cal.d1_is M (by omega); rw [Ha.out] at h1; omega
      have e2 : 48 + (M : Int) % 10 = ((n8 b : Nat) : Int) := by have h1 := Cal.d0_is M; rw [Hb.out] at h1; omega
      have na := n8_lt a
      have nb := n8_lt b
      have Hbl := hd hb
      have hE := hd (show Below wr.heap.size wr (wr.alloc (.cells #[.int .u8 ((n8 a : Nat) : Int), .int .u8 ((n8 b : Nat) : Int)] 5)) from (Below.refl _ _).alloc (Nat.le_refl _) _)
      have HR := hd (show ReadsB (wr.alloc (.cells #[.int .u8 ((n8 a : Nat) : Int), .int .u8 ((n8 b : Nat) : Int)] 5)) (wr.alloc (.cells #[.int .u8 ((n8 a : Nat) : Int), .int .u8 ((n8 b : Nat) : Int)] 5)).heap.size (some ⟨wr.heap.size, 0, none⟩) 2 [a, b] from OwnB.lits2 a b)
      have HT := hd (show T.take (2 * 2) ++ [a, b] = T.take (2 * 3) by rw [← HT14.out, ← Ha.out, ← Hb.out]; rfl)
      have HTl := hd (show (T.take (2 * 2)).length + 2 ≤ 140737488355328 by rw [List.length_take]; omega)
      clear hb hB
      go_wp2_with (first | (at_builtin; refine wpl_appendB rfl _ _ rfl w.heap.size u7 (T.take (2 * 2)) rfl (Own.out.alloc _) _ (some ⟨wr.heap.size, 0, none⟩) 2 2 [a, b] rfl HR.out HTl.out (by have := HB.out.size; have := hE.out.size; omega) ?_; intro v2 w2 own2 gr2 at2; have hb2 := (Hbl.out.alloc (.cells #[.int .u8 ((n8 a : Nat) : Int), .int .u8 ((n8 b : Nat) : Int)] 5)).appended (Own.out.alloc _) gr2 (by decide); have hB2 := below_appended (HB.out.alloc HB.out.size (.cells #[.int .u8 ((n8 a : Nat) : Int), .int .u8 ((n8 b : Nat) : Int)] 5)) (Own.out.alloc _) gr2 (Nat.le_refl _) (by have := HB.out.size; have := hE.out.size; omega)))
      rw [HT.out] at own2
      go_roundw
      case rel => exact ⟨3, by omega, rfl, own2, hb2, hB2⟩
      case measure => simp [intOf]
    · have c : wr.cell? ⟨w.heap.size, 3, none⟩ = some (.int .i64 (D : Int)) := hb.cell 3
      obtain ⟨a, Ha⟩ : ∃ z, Hd (Cal.d1 D = z) := ⟨_, ⟨rfl⟩⟩
      obtain ⟨b, Hb⟩ : ∃ z, Hd (Cal.d0 D = z) := ⟨_, ⟨rfl⟩⟩
      have e1 : 48 + (D : Int) / 10 = ((n8 a : Nat) : Int) := by have h1 := Cal.d1_is D (by omega); rw [Ha.out] at h1; omega
      have e2 : 48 + (D : Int) % 10 = ((n8 b : Nat) : Int) := by have h1 := Cal.d0_is D; rw [Hb.out] at h1; omega
      have na := n8_lt a
      have nb := n8_lt b
      have Hbl := hd hb
      have hE := hd (show Below wr.heap.size wr (wr.alloc (.cells #[.int .u8 ((n8 a : Nat) : Int), .int .u8 ((n8 b : Nat) : Int)] 5)) from (Below.refl _ _).alloc (Nat.le_refl _) _)
      have HR := hd (show ReadsB (wr.alloc (.cells #[.int .u8 ((n8 a : Nat) : Int), .int .u8 ((n8 b : Nat) : Int)] 5)) (wr.alloc (.cells #[.int .u8 ((n8 a : Nat) : Int), .int .u8 ((n8 b : Nat) : Int)] 5)).heap.size (some ⟨wr.heap.size, 0, none⟩) 2 [a, b] from OwnB.lits2 a b)
      have HT := hd (show T.take (2 * 3) ++ [a, b] = T.take (2 * 4) by rw [← HT14.out, ← Ha.out, ← Hb.out]; rfl)
      have HTl := hd (show (T.take (2 * 3)).length + 2 ≤ 140737488355328 by rw [List.length_take]; omega)
      clear hb hB
      go_wp2_with (first | (at_builtin; refine wpl_appendB rfl _ _ rfl w.heap.size u7 (T.take (2 * 3)) rfl (Own.out.alloc _) _ (some ⟨wr.heap.size, 0, none⟩) 2 2 [a, b] rfl HR.out HTl.out (by have := HB.out.size; have := hE.out.size; omega) ?_; intro v2 w2 own2 gr2 at2; have hb2 := (Hbl.out.alloc (.cells #[.int .u8 ((n8 a : Nat) : Int), .int .u8 ((n8 b : Nat) : Int)] 5)).appended (Own.out.alloc _) gr2 (by decide); have hB2 := below_appended (HB.out.alloc HB.out.size (.cells #[.int .u8 ((n8 a : Nat) : Int), .int .u8 ((n8 b : Nat) : Int)] 5)) (Own.out.alloc _) gr2 (Nat.le_refl _) (by have := HB.out.size; have := hE.out.size; omega)))
      rw [HT.out] at own2
      go_roundw
      case rel => exact ⟨4, by omega, rfl, own2, hb2, hB2⟩
      case measure => simp [intOf]
    · have c : wr.cell? ⟨w.heap.size, 4, none⟩ = some (.int .i64 (v4 : Int)) := hb.cell 4
      obtain ⟨a, Ha⟩ : ∃ z, Hd (Cal.d1 v4 = z) := ⟨_, ⟨rfl⟩⟩
      obtain ⟨b, Hb⟩ : ∃ z, Hd (Cal.d0 v4 = z) := ⟨_, ⟨rfl⟩⟩
      have e1 : 48 + (v4 : Int) / 10 = ((n8 a : Nat) : Int) := by have h1 := Cal.d1_is v4 (by omega); rw [Ha.out] at h1; omega
      have e2 : 48 + (v4 : Int) % 10 = ((n8 b : Nat) : Int) := by have h1 := Cal.d0_is v4; rw [Hb.out] at h1; omega
      have na := n8_lt a
      have nb := n8_lt b
      have Hbl := hd hb
      have hE := hd (show Below wr.heap.size wr (wr.alloc (.cells #[.int .u8 ((n8 a : Nat) : Int), .int .u8 ((n8 b : Nat) : Int)] 5)) from (Below.refl _ _).alloc (Nat.le_refl _) _)
      have HR := hd (show ReadsB (wr.alloc (.cells #[.int .u8 ((n8 a : Nat) : Int), .int .u8 ((n8 b : Nat) : Int)] 5)) (wr.alloc (.cells #[.int .u8 ((n8 a : Nat) : Int), .int .u8 ((n8 b : Nat) : Int)] 5)).heap.size (some ⟨wr.heap.size, 0, none⟩) 2 [a, b] from OwnB.lits2 a b)
      have HT := hd (show T.take (2 * 4) ++ [a, b] = T.take (2 * 5) by rw [← HT14.out, ← Ha.out, ← Hb.out]; rfl)
      have HTl := hd (show (T.take (2 * 4)).length + 2 ≤ 140737488355328 by rw [List.length_take]; omega)
      clear hb hB
      go_wp2_with (first | (at_builtin; refine wpl_appendB rfl _ _ rfl w.heap.size u7 (T.take (2 * 4)) rfl (Own.out.alloc _) _ (some ⟨wr.heap.size, 0, none⟩) 2 2 [a, b] rfl HR.out HTl.out (by have := HB.out.size; have := hE.out.size; omega) ?_; intro v2 w2 own2 gr2 at2; have hb2 := (Hbl.out.alloc (.cells #[.int .u8 ((n8 a : Nat) : Int), .int .u8 ((n8 b : Nat) : Int)] 5)).appended (Own.out.alloc _) gr2 (by decide); have hB2 := below_appended (HB.out.alloc HB.out.size (.cells #[.int .u8 ((n8 a : Nat) : Int), .int .u8 ((n8 b : Nat) : Int)] 5)) (Own.out.alloc _) gr2 (Nat.le_refl _) (by have := HB.out.size; have := hE.out.size; omega)))
      rw [HT.out] at own2
      go_roundw
      case rel => exact ⟨5, by omega, rfl, own2, hb2, hB2⟩
      case measure => simp [intOf]
    · have c : wr.cell? ⟨w.heap.size, 5, none⟩ = some (.int .i64 (v5 : Int)) := hb.cell 5
      obtain ⟨a, Ha⟩ : ∃ z, Hd (Cal.d1 v5 = z) := ⟨_, ⟨rfl⟩⟩
      obtain ⟨b, Hb⟩ : ∃ z, Hd (Cal.d0 v5 = z) := ⟨_, ⟨rfl⟩⟩
      have e1 : 48 + (v5 : Int) / 10 = ((n8 a : Nat) : Int) := by have h1 := Cal.d1_is v5 (by omega); rw [Ha.out] at h1; omega
      have e2 : 48 + (v5 : Int) % 10 = ((n8 b : Nat) : Int) := by have h1 := Cal.d0_is v5; rw [Hb.out] at h1; omega
      have na := n8_lt a
      have nb := n8_lt b
      have Hbl := hd hb
      have hE := hd (show Below wr.heap.size wr (wr.alloc (.cells #[.int .u8 ((n8 a : Nat) : Int), .int .u8 ((n8 b : Nat) : Int)] 5)) from (Below.refl _ _).alloc (Nat.le_refl _) _)
      have HR := hd (show ReadsB (wr.alloc (.cells #[.int .u8 ((n8 a : Nat) : Int), .int .u8 ((n8 b : Nat) : Int)] 5)) (wr.alloc (.cells #[.int .u8 ((n8 a : Nat) : Int), .int .u8 ((n8 b : Nat) : Int)] 5)).heap.size (some ⟨wr.heap.size, 0, none⟩) 2 [a, b] from OwnB.lits2 a b)
      have HT := hd (show T.take (2 * 5) ++ [a, b] = T.take (2 * 6) by rw [← HT14.out, ← Ha.out, ← Hb.out]; rfl)
      have HTl := hd (show (T.take (2 * 5)).length + 2 ≤ 140737488355328 by rw [List.length_take]; omega)
      clear hb hB
      go_wp2_with (first | (at_builtin; refine wpl_appendB rfl _ _ rfl w.heap.size u7 (T.take (2 * 5)) rfl (Own.out.alloc _) _ (some ⟨wr.heap.size, 0, none⟩) 2 2 [a, b] rfl HR.out HTl.out (by have := HB.out.size; have := hE.out.size; omega) ?_; intro v2 w2 own2 gr2 at2; have hb2 := (Hbl.out.alloc (.cells #[.int .u8 ((n8 a : Nat) : Int), .int .u8 ((n8 b : Nat) : Int)] 5)).appended (Own.out.alloc _) gr2 (by decide); have hB2 := below_appended (HB.out.alloc HB.out.size (.cells #[.int .u8 ((n8 a : Nat) : Int), .int .u8 ((n8 b : Nat) : Int)] 5)) (Own.out.alloc _) gr2 (Nat.le_refl _) (by have := HB.out.size; have := hE.out.size; omega)))
      rw [HT.out] at own2
      go_roundw
      case rel => exact ⟨6, by omega, rfl, own2, hb2, hB2⟩
      case measure => simp [intOf]
    · have c : wr.cell? ⟨w.heap.size, 6, none⟩ = some (.int .i64 (v6 : Int)) := hb.cell 6
      obtain ⟨a, Ha⟩ : ∃ z, Hd (Cal.d1 v6 = z) := ⟨_, ⟨rfl⟩⟩
      obtain ⟨b, Hb⟩ : ∃ z, Hd (Cal.d0 v6 = z) := ⟨_, ⟨rfl⟩⟩
      have e1 : 48 + (v6 : Int) / 10 = ((n8 a : Nat) : Int) := by have h1 := Cal.d1_is v6 (by omega); rw [Ha.out] at h1; omega
      have e2 : 48 + (v6 : Int) % 10 = ((n8 b : Nat) : Int) := by have h1 := Cal.d0_is v6; rw [Hb.out] at h1; omega
      have na := n8_lt a
      have nb := n8_lt b
      have Hbl := hd hb
      have hE := hd (show Below wr.heap.size wr (wr.alloc (.cells #[.int .u8 ((n8 a : Nat) : Int), .int .u8 ((n8 b : Nat) : Int)] 5)) from (Below.refl _ _).alloc (Nat.le_refl _) _)
      have HR := hd (show ReadsB (wr.alloc (.cells #[.int .u8 ((n8 a : Nat) : Int), .int .u8 ((n8 b : Nat) : Int)] 5)) (wr.alloc (.cells #[.int .u8 ((n8 a : Nat) : Int), .int .u8 ((n8 b : Nat) : Int)] 5)).heap.size (some ⟨wr.heap.size, 0, none⟩) 2 [a, b] from OwnB.lits2 a b)
      have HT := hd (show T.take (2 * 6) ++ [a, b] = T.take (2 * 7) by rw [← HT14.out, ← Ha.out, ← Hb.out]; rfl)
      have HTl := hd (show (T.take (2 * 6)).length + 2 ≤ 140737488355328 by rw [List.length_take]; omega)
      clear hb hB
      go_wp2_with (first | (at_builtin; refine wpl_appendB rfl _ _ rfl w.heap.size u7 (T.take (2 * 6)) rfl (Own.out.alloc _) _ (some ⟨wr.heap.size, 0, none⟩) 2 2 [a, b] rfl HR.out HTl.out (by have := HB.out.size; have := hE.out.size; omega) ?_; intro v2 w2 own2 gr2 at2; have hb2 := (Hbl.out.alloc (.cells #[.int .u8 ((n8 a : Nat) : Int), .int .u8 ((n8 b : Nat) : Int)] 5)).appended (Own.out.alloc _) gr2 (by decide); have hB2 := below_appended (HB.out.alloc HB.out.size (.cells #[.int .u8 ((n8 a : Nat) : Int), .int .u8 ((n8 b : Nat) : Int)] 5)) (Own.out.alloc _) gr2 (Nat.le_refl _) (by have := HB.out.size; have := hE.out.size; omega)))
      rw [HT.out] at own2
      go_roundw
      case rel => exact ⟨7, by omega, rfl, own2, hb2, hB2⟩
      case measure => simp [intOf]
    · have hE := hd (show Below wr.heap.size wr (wr.alloc (.cells #[.int .u8 90] 5)) from (Below.refl _ _).alloc (Nat.le_refl _) _)
      have HR := hd (show ReadsB (wr.alloc (.cells #[.int .u8 90] 5)) (wr.alloc (.cells #[.int .u8 90] 5)).heap.size (some ⟨wr.heap.size, 0, none⟩) 1 [90] from (OwnB.lits (w := wr) [90] _ rfl (by simp)).reads)
      have HTl := hd (show T.length = 14 by rw [← HT14.out]; rfl)
      have Own7 := hd (show OwnB wr w.heap.size u7 T by have h := Own.out; rwa [List.take_of_length_le (by rw [HTl.out]; decide)] at h)
      have HTs := hd (show T.length + ([90] : List UInt8).length ≤ 140737488355328 by rw [HTl.out]; decide)
      clear hb hB Own
      go_upto_region 12 with (first | (at_builtin; refine wpl_appendB rfl _ _ rfl w.heap.size u7 T rfl (Own7.out.alloc _) _ (some ⟨wr.heap.size, 0, none⟩) 1 1 [90] rfl HR.out HTs.out (by have := HB.out.size; have := hE.out.size; omega) ?_; intro v2 w2 own2 gr2 at2; have hB2 := below_appended (HB.out.alloc HB.out.size (.cells #[.int .u8 90] 5)) (Own7.out.alloc _) gr2 (Nat.le_refl _) (by have := HB.out.size; have := hE.out.size; omega)))
      obtain ⟨A2, c2, e2⟩ := own2.slice
      have hl15 : (T ++ [90]).length = 15 := by rw [List.length_append, HTl.out]; rfl
      rw [hl15] at e2
      subst e2
      have hroom := own2.room
      have rd2 : ReadsB w2 w2.heap.size A2 15 (T ++ [90]) := ⟨hl15, own2.reads_any.2.is⟩
      have Hwt := hd (show w.heap.size ≤ w2.heap.size from hB2.size)
      clear own2 at2 gr2 HR Own7 hE
      by_cases hy : 1950 ≤ Y ∧ Y < 2050
      · have t1 : (1950 : Int) ≤ (Y : Int) := by omega
        have t2 : (Y : Int) < 2050 := by omega
        obtain ⟨A3, HA3⟩ : ∃ x, Hd ((if c2 = 2 then A2 else A2.map (·.add 2)) = x) := ⟨_, ⟨rfl⟩⟩
        obtain ⟨c3, Hc3⟩ : ∃ x, Hd (c2 - 2 = x) := ⟨_, ⟨rfl⟩⟩
        have rd3 : ReadsB w2 w2.heap.size A3 13 (T.drop 2 ++ [90]) := by
          have h := rd2.drop (k := 2) (by omega) hroom
          rw [HA3.out, List.drop_append_of_le_length (by rw [HTl.out]; decide)] at h
          exact h
        have HS3 := hd (fun (W : World) (ρ : Operand → Value) (o : Oper) (x y : Operand) (ho : o.op = .slice 22 x (some y) none none) (hx : ρ x = .slice A2 15 c2) (hy : ρ y = .int .i64 ((2 : Nat) : Int)) => (by have h := run_slice_from (P := Tryd.prog) (w := W) ho Tryd.underlying22 u8_cell1 A2 15 c2 2 hx hy (by decide) hroom; rw [HA3.out, Hc3.out] at h; exact h : (execOp ρ o).run Tryd.prog W = .ok (.value (.slice A3 13 c3)) W))
        have hp := hd (parts_one (c := c3) rd3 (by omega))
        have HP := hd (put_any 23 (some ⟨w2.heap.size, 0, none⟩) 1 1 [⟨A3, 13, c3, T.drop 2 ++ [90]⟩] _ hp.out (by omega) (by rw [joined_one]; show (T.drop 2 ++ [90]).length ≤ _; rw [rd3.len]; omega))
        rw [joined_one, show Der.put 23 (Part.t ⟨A3, 13, c3, T.drop 2 ++ [90]⟩) = Cal.putT t by rw [HP0.out, if_pos hy]] at HP
        clear rd3 rd2 hy
        go_wp2_with (first
          | (go_at_call 9; refine HP.out.mono ?_; rintro e w3 ⟨v3, rfl, own3, hB3⟩)
          | (refine wpl_run (o := ⟨some 70, _, _, _, _, _⟩) (by simp [Region.wanted, yielded, Act.put]) (.slice A3 13 c3) (HS3.out _ _ _ _ _ (by rfl) (by simp [Act.eval, Act.put]) (by simp [Act.eval, Act.put])) ?_))
        go_ret
        have hA : Below w2.heap.size w2 (w2.alloc (.cells #[.slice A3 13 c3] 22)) := (Below.refl _ _).alloc (Nat.le_refl _) _
        have hBA := hB2.trans (hA.mono hB2.size)
        exact ⟨_, rfl, fun _ => own3.low hBA.size, fun h => absurd Hin.out h, hBA.trans (hB3.mono hBA.size)⟩
      · have hp := hd (parts_one (c := c2) rd2 (by omega))
        have HP := hd (put_any 24 (some ⟨w2.heap.size, 0, none⟩) 1 1 [⟨A2, 15, c2, T ++ [90]⟩] _ hp.out (by omega) (by rw [joined_one]; show (T ++ [90]).length ≤ _; rw [rd2.len]; omega))
        rw [joined_one, show Der.put 24 (Part.t ⟨A2, 15, c2, T ++ [90]⟩) = Cal.putT t by rw [HP0.out, if_neg hy]] at HP
        clear rd2
        by_cases hlo : 1950 ≤ Y
        · have t1 : (1950 : Int) ≤ (Y : Int) := by omega
          have t2 : ¬ (Y : Int) < 2050 := by omega
          clear hy
          go_wp2_with (first
            | (go_at_call 9; refine HP.out.mono ?_; rintro e w3 ⟨v3, rfl, own3, hB3⟩))
          go_ret
          have hA : Below w2.heap.size w2 (w2.alloc (.cells #[.slice A2 15 c2] 22)) := (Below.refl _ _).alloc (Nat.le_refl _) _
          have hBA := hB2.trans (hA.mono hB2.size)
          exact ⟨_, rfl, fun _ => own3.low hBA.size, fun h => absurd Hin.out h, hBA.trans (hB3.mono hBA.size)⟩
        · have t1 : ¬ (1950 : Int) ≤ (Y : Int) := by omega
          clear hy
          go_wp2_with (first
            | (go_at_call 9; refine HP.out.mono ?_; rintro e w3 ⟨v3, rfl, own3, hB3⟩))
          go_ret
          have hA : Below w2.heap.size w2 (w2.alloc (.cells #[.slice A2 15 c2] 22)) := (Below.refl _ _).alloc (Nat.le_refl _) _
          have hBA := hB2.trans (hA.mono hB2.size)
          exact ⟨_, rfl, fun _ => own3.low hBA.size, fun h => absurd Hin.out h, hBA.trans (hB3.mono hBA.size)⟩
end Go.Proofs.YthkggeohdclffaaDoor
