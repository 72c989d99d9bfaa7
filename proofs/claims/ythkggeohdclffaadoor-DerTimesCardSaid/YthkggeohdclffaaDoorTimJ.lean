/-
  The walk of ref14.PutTime.
-/
import Derived.Test.YthkggeohdclffaaDoorTimI
import Derived.Test.YthkggeohdclffaaDoorTimE
set_option linter.unusedVariables false
set_option linter.unusedSimpArgs false
set_option maxRecDepth 100000
namespace Go.Proofs.YthkggeohdclffaaDoor
open Go.RowKit
theorem two_any (x : Nat) (hx : x ≤ 99) (w : World) : Calls Tryd.prog 31 #[.int .i64 (x : Int)] w fun e w' => ∃ A c, e = .returned (.slice A 2 c) ∧ OwnB w' w.heap.size (.slice A 2 c) (Cal.dg x) ∧ Below w.heap.size w w' := by
  obtain ⟨a, Ha⟩ : ∃ z, Hd (Cal.d1 x = z) := ⟨_, ⟨rfl⟩⟩
  obtain ⟨b, Hb⟩ : ∃ z, Hd (Cal.d0 x = z) := ⟨_, ⟨rfl⟩⟩
  have e0 : (x : Int) / 10 % 10 = (x : Int) / 10 := by omega
  have e1 : 48 + (x : Int) / 10 = ((n8 a : Nat) : Int) := by have h1 := Cal.d1_is x (by omega); rw [Ha.out] at h1; omega
  have e2 : 48 + (x : Int) % 10 = ((n8 b : Nat) : Int) := by have h1 := Cal.d0_is x; rw [Hb.out] at h1; omega
  have na := n8_lt a
  have nb := n8_lt b
  go_enter Tryd.func31, Tryd.ntmps31
  go_wp2
  go_ret
  refine ⟨_, _, rfl, ?_, (Below.refl _ _).alloc (Nat.le_refl _) _⟩
  have h := OwnB.lits (w := w) [a, b] _ rfl (by simp)
  unfold Cal.dg
  rw [Ha.out, Hb.out]
  exact h
set_option maxHeartbeats 4000000 in
set_option maxRecDepth 100000 in
theorem rput_short (tag : UInt8) (ht : ¬ tag &&& 31 = 31) (A : Option Addr) (n c : Nat) (l : List UInt8) (hn : n ≤ 100) (w : World) (hr : ReadsB w w.heap.size A n l) :
    Calls Tryd.prog 32 #[.int .u8 ((n8 tag : Nat) : Int), .slice A n c] w fun e w' => ∃ v, e = .returned v ∧ OwnB w' w.heap.size v (Der.put tag l) ∧ Below w.heap.size w w' := by
  have Hl := hd hr.len
  obtain ⟨z, Hz⟩ : ∃ z : UInt8, Hd (n = n8 z) := ⟨UInt8.ofNat n, ⟨by rw [Cal.n8_ofNat _ (by omega)]⟩⟩
  have q3 : (tag &&& 31 == 31) = false := by simpa using ht
  have HP := hd (show Der.put tag l = [tag, z] ++ l by
    unfold Der.put
    have hlen := Hl.out
    rw [if_neg (by rintro (h | h); exact ht h; omega), if_neg (by omega), if_neg (by omega)]
    have e : Der.byteOf (l.length : Int) = z := by
      have h1 := derMod8 (l.length : Int)
      have h2 := Hz.out
      have h3 := n8_lt (Der.byteOf (l.length : Int))
      exact UInt8.toNat_inj.1 (show n8 (Der.byteOf (l.length : Int)) = n8 z by omega)
    rw [e])
  rw [HP.out]
  have hz := Hz.out
  subst hz
  have t1 : ((n8 z : Nat) : Int) < 128 := by omega
  have t2 : ¬ (65535 : Int) < ((n8 z : Nat) : Int) := by omega
  have hA0 : Below w.heap.size w (w.alloc (.cells #[.int .u8 ((n8 tag : Nat) : Int)] 5)) := (Below.refl _ _).alloc (Nat.le_refl _) _
  have own1 : OwnB (w.alloc (.cells #[.int .u8 ((n8 tag : Nat) : Int)] 5)) w.heap.size (.slice (some ⟨w.heap.size, 0, none⟩) 1 1) [tag] := OwnB.lits (w := w) [tag] _ rfl (by simp)
  obtain ⟨w1, Hw1⟩ : ∃ y, Hd (w.alloc (.cells #[.int .u8 ((n8 tag : Nat) : Int)] 5) = y) := ⟨_, ⟨rfl⟩⟩
  rw [Hw1.out] at hA0 own1
  have hA1 : Below w1.heap.size w1 (w1.alloc (.cells #[.int .u8 ((n8 z : Nat) : Int)] 5)) := (Below.refl _ _).alloc (Nat.le_refl _) _
  have rd1 : ReadsB (w1.alloc (.cells #[.int .u8 ((n8 z : Nat) : Int)] 5)) (w1.alloc (.cells #[.int .u8 ((n8 z : Nat) : Int)] 5)).heap.size (some ⟨w1.heap.size, 0, none⟩) 1 [z] := (OwnB.lits (w := w1) [z] _ rfl (by simp)).reads
  have H1 := hd (show OwnB (w1.alloc (.cells #[.int .u8 ((n8 z : Nat) : Int)] 5)) w.heap.size (.slice (some ⟨w.heap.size, 0, none⟩) 1 1) [tag] ∧ ReadsB (w1.alloc (.cells #[.int .u8 ((n8 z : Nat) : Int)] 5)) (w1.alloc (.cells #[.int .u8 ((n8 z : Nat) : Int)] 5)).heap.size (some ⟨w1.heap.size, 0, none⟩) 1 [z] ∧ Below w.heap.size w (w1.alloc (.cells #[.int .u8 ((n8 z : Nat) : Int)] 5)) from ⟨own1.later hA1, rd1, hA0.trans (hA1.mono hA0.size)⟩)
  have HR := hd (fun (W : World) (hW : Below w.heap.size w W) => (⟨hr.len, (hr.is.below hW)⟩ : ReadsB W w.heap.size A (n8 z) l))
  clear hA1 rd1 own1 ht
  go_enter Tryd.func32, Tryd.ntmps32
  go_upto_block 0 with fail
  rw [Hw1.out]
  go_upto_region 9 with (first
    | (at_builtin; refine wpl_appendB rfl _ _ rfl w.heap.size (.slice (some ⟨w.heap.size, 0, none⟩) 1 1) [tag] rfl H1.out.1 _ (some ⟨w1.heap.size, 0, none⟩) 1 1 [z] rfl H1.out.2.1 (by simp) H1.out.2.2.size ?_; intro v2 w2 own2 gr2 at2; have hB2 := below_appended H1.out.2.2 H1.out.1 gr2 (Nat.le_refl _) H1.out.2.2.size))
  clear H1
  obtain ⟨A2, c2, e2⟩ := own2.slice
  subst e2
  go_wp2_with (first
    | (at_builtin; refine wpl_appendB rfl _ _ rfl w.heap.size _ ([tag] ++ [z]) rfl own2 w.heap.size A (n8 z) c l rfl (HR.out w2 hB2) (by rw [Hl.out]; simp; omega) hB2.size ?_; intro v3 w3 own3 gr3 at3; have hB3 := below_appended hB2 own2 gr3 (Nat.le_refl _) hB2.size))
  go_ret
  exact ⟨_, rfl, own3, hB3⟩
/-- The year's search: a day between two years' beginnings. -/
theorem Cal.found {t : Int} (h : Cal.InRange t) {y m r : Nat} (h1 : 1 ≤ m) (h2 : m ≤ 12) (hr : r < Cal.month y m) (he : r + Cal.cum y (m - 1) + Cal.jan y = Cal.dayN t) : Cal.yOf (Cal.dayN t) = y ∧ Cal.mOf (Cal.dayN t) = m ∧ Cal.dOf (Cal.dayN t) = r + 1 := by
  obtain ⟨_, hv, hd, _⟩ := Cal.dayN_date h
  have hv2 : Cal.Valid y m (r + 1) := ⟨h1, h2, by omega, by omega⟩
  have hd2 := Cal.day_is y m (r + 1) h1 h2 (by omega)
  exact Cal.day_inj hv hv2 (by rw [hd, hd2]; omega)
theorem Cal.step365 (y : Nat) : Cal.jan y + 365 ≤ Cal.jan (y + 1) := by have := Cal.jan_step y; omega
set_option maxHeartbeats 16000000 in
set_option maxRecDepth 100000 in
theorem rputTime_any (t : Int) (ht : -9223372036854775808 ≤ t ∧ t ≤ 9223372036854775807) (w : World) : Calls Tryd.prog 17 #[.int .i64 t] w (PutSaid t w) := by
  by_cases h1 : t < -62135596800
  · have hno := hd (show ¬ Cal.InRange t from fun h => by have := h.1; omega)
    go_enter Tryd.func17, Tryd.ntmps17
    go_wp2
    go_ret
    exact ⟨_, rfl, fun h => absurd h hno.out, fun _ => rfl, Below.refl _ _⟩
  by_cases h2 : 253402300799 < t
  · have hno := hd (show ¬ Cal.InRange t from fun h => by have := h.2; omega)
    go_enter Tryd.func17, Tryd.ntmps17
    go_wp2
    go_ret
    exact ⟨_, rfl, fun h => absurd h hno.out, fun _ => rfl, Below.refl _ _⟩
  have hin : Cal.InRange t := ⟨by omega, by omega⟩
  have Hin := hd hin
  obtain ⟨hn1, hr1, hr2, hn2, hn3⟩ := Cal.dayN_is hin
  have HF := hd (fun (y m r : Nat) (a : 1 ≤ m) (b : m ≤ 12) (c : r < Cal.month y m) (d : r + Cal.cum y (m - 1) + Cal.jan y = Cal.dayN t) => Cal.found hin a b c d)
  have HP0 := hd (show Cal.putT t = if 1950 ≤ Cal.yOf (Cal.dayN t) ∧ Cal.yOf (Cal.dayN t) < 2050 then Der.put 23 ((Cal.T14 t).drop 2 ++ [90]) else Der.put 24 (Cal.T14 t ++ [90]) from rfl)
  have HT0 := hd (show Cal.T14 t = Cal.wT (Cal.yOf (Cal.dayN t)) (Cal.mOf (Cal.dayN t)) (Cal.dOf (Cal.dayN t)) (Cal.secN t / 3600) (Cal.secN t / 60 % 60) (Cal.secN t % 60) from rfl)
  clear hin
  obtain ⟨n, Hn⟩ : ∃ z, Hd (Cal.dayN t = z) := ⟨_, ⟨rfl⟩⟩
  obtain ⟨R, HRr⟩ : ∃ z, Hd (Cal.secN t = z) := ⟨_, ⟨rfl⟩⟩
  rw [Hn.out] at hn1 hn2 hn3 HP0 HT0 HF
  rw [HRr.out] at hr1 hr2 HT0
  obtain ⟨q1, Hq1⟩ : ∃ z, Hd (t.tdiv 86400 = z) := ⟨_, ⟨rfl⟩⟩
  obtain ⟨r1, Hr1⟩ : ∃ z, Hd (t.tmod 86400 = z) := ⟨_, ⟨rfl⟩⟩
  have h5 := Int.mul_tdiv_add_tmod t 86400
  have h6 := Int.tmod_lt_of_pos t (show (0 : Int) < 86400 by decide)
  have h7 := Int.lt_tmod_of_pos t (show (0 : Int) < 86400 by decide)
  rw [Hq1.out, Hr1.out] at h5
  rw [Hr1.out] at h6 h7
  have f1 : t.tdiv 86400 = q1 := Hq1.out
  have f2 : t.tmod 86400 = r1 := Hr1.out
  have hqb : -719163 ≤ q1 ∧ q1 ≤ 2932897 := by omega
  have hq1 := hqb.1
  have hq2 := hqb.2
  have HQ := hd (show (r1 < 0 → q1 - 1 = (n : Int) - 2180438 ∧ r1 + 86400 = (R : Int)) ∧ (0 ≤ r1 → q1 = (n : Int) - 2180438 ∧ r1 = (R : Int)) from ⟨fun h => by omega, fun h => by omega⟩)
  obtain ⟨q3, Hq3⟩ : ∃ z, Hd (((n : Int) - 2180438).tdiv 366 = z) := ⟨_, ⟨rfl⟩⟩
  have g5 := Int.mul_tdiv_add_tmod ((n : Int) - 2180438) 366
  have g6 := Int.tmod_lt_of_pos ((n : Int) - 2180438) (show (0 : Int) < 366 by decide)
  have g7 := Int.lt_tmod_of_pos ((n : Int) - 2180438) (show (0 : Int) < 366 by decide)
  rw [Hq3.out] at g5
  have f3 : ((n : Int) - 2180438).tdiv 366 = q3 := Hq3.out
  have hq4 : -1965 ≤ q3 := by omega
  have hq5 : q3 ≤ 8014 := by omega
  obtain ⟨Y0, HY0⟩ : ∃ z : Nat, Hd ((z : Int) = 1970 + q3 - 3) := ⟨(1967 + q3).toNat, ⟨by omega⟩⟩
  have f4 : 1970 + q3 - 3 = (Y0 : Int) := HY0.out.symm
  have HY0b := hd (show 1 ≤ Y0 ∧ Y0 ≤ 9999 by omega)
  have HDa := hd (fun (y : Nat) (hy : y ≤ 20000) => days_any y hy w)
  have HJs := hd Cal.step365
  have HJst := hd Cal.jan_step
  have HJm := hd Cal.jan_mono
  have HJ1 := hd Cal.jan_1
  have HJx := hd Cal.jan_10000
  have HJl := hd Cal.jan_le
  obtain ⟨J, Hjan⟩ : ∃ f : Nat → Nat, Hd (Cal.jan = f) := ⟨_, ⟨rfl⟩⟩
  rw [Hjan.out] at HF HDa HJs HJst HJm HJ1 HJx HJl
  have Hn2 := hd hn2
  have Hn3 := hd hn3
  clear h5 h6 h7 hqb g5 g6 g7 hn1 hr1 hn2 hn3
  have hnb : (n : Int) ≤ 6000000 := by have := Hn3.out; omega
  go_enter Tryd.func17, Tryd.ntmps17
  go_upto_if 20 with fail
  go_cut [3, 4] (fun s3 s4 wx => s3 = .int .i64 ((n : Int) - 2180438) ∧ s4 = .int .i64 (R : Int) ∧ wx = w)
  case first =>
    by_cases hneg : r1 < 0
    · obtain ⟨e1, e2⟩ := HQ.out.1 hneg
      go_wp2
      go_meet
      exact ⟨rfl, rfl, rfl⟩
    · obtain ⟨e1, e2⟩ := HQ.out.2 (by omega)
      go_wp2
      go_meet
      exact ⟨rfl, rfl, rfl⟩
  case rest =>
    obtain ⟨rfl, rfl, ew⟩ := hcut
    rw [ew]
    clear ew
    clear f1 f2 hq1 hq2 HQ Hq1 Hr1
    go_wp2
    go_loopw [5] (fun s5 wr => ∃ y : Nat, 1 ≤ y ∧ y ≤ 9999 ∧ s5 = .int .i64 (y : Int) ∧ wr = w) (fun s5 _ => 20000 - (intOf s5).toNat)
    case atStart => exact ⟨Y0, HY0b.out.1, HY0b.out.2, rfl, rfl⟩
    case round =>
      clear f3 f4 hq4 hq5 HY0 HY0b Hq3
      obtain ⟨y, hy1, hy2, rfl, ew⟩ := hrel
      rw [ew]
      clear ew
      obtain ⟨y1, Hy1⟩ : ∃ z, Hd (y + 1 = z) := ⟨_, ⟨rfl⟩⟩
      have hy12 : y1 ≤ 10000 := by have := Hy1.out; omega
      have HD1 := hd (HDa.out y1 (by omega))
      have hjl := HJl.out y1 (by omega)
      obtain ⟨j1, Hj1⟩ : ∃ z, Hd (J y1 = z) := ⟨_, ⟨rfl⟩⟩
      rw [Hj1.out] at HD1 hjl
      have hji : (j1 : Int) ≤ 9000000 := by omega
      clear hjl
      have wy : (y : Int) + 1 = (y1 : Int) := by have := Hy1.out; omega
      by_cases hle : j1 ≤ n
      · have ta : (j1 : Int) ≤ (n : Int) := by omega
        have tb : (j1 : Int) - 2180438 ≤ (n : Int) - 2180438 := by omega
        have hyn := hd (show y1 ≤ 9999 by
          rcases Nat.lt_or_ge y1 10000 with h | h
          · omega
          · have h3 := HJm.out 10000 (y1 - 10000)
            rw [show 10000 + (y1 - 10000) = y1 by omega, Hj1.out, HJx.out] at h3
            have := Hn3.out
            omega)
        go_wp2_with (first | (go_at_call 30; refine HD1.out.mono ?_; rintro e w5 ⟨rfl, e5⟩; rw [e5]; clear e5 w5))
        go_roundw
        case rel => exact ⟨y1, by have := Hy1.out; omega, hyn.out, rfl, trivial⟩
        case measure => have := Hy1.out; simp [intOf]; omega
      · have ta : ¬ (j1 : Int) ≤ (n : Int) := by omega
        have tb : ¬ (j1 : Int) - 2180438 ≤ (n : Int) - 2180438 := by omega
        have hgt := hd (show n < J (y + 1) by rw [Hy1.out, Hj1.out]; omega)
        go_wp2_with (first | (go_at_call 30; refine HD1.out.mono ?_; rintro e w5 ⟨rfl, e5⟩; rw [e5]; clear e5 w5))
        clear HD1 Hj1 ta tb hji wy hle
        go_loopw [5] (fun s5 wr2 => ∃ x : Nat, 1 ≤ x ∧ x ≤ 9999 ∧ n < J (x + 1) ∧ s5 = .int .i64 (x : Int) ∧ wr2 = w) (fun s5 _ => (intOf s5).toNat)
        case atStart => exact ⟨y, hy1, hy2, hgt.out, rfl, rfl⟩
        case round =>
          clear hgt hy1 hy2
          obtain ⟨x, hx1, hx2, hxg, rfl, ew⟩ := hrel
          rw [ew]
          clear ew
          have Hxg := hd hxg
          clear hxg
          have HD1 := hd (HDa.out x (by omega))
          have hjl := HJl.out x (by omega)
          obtain ⟨jx, Hjx⟩ : ∃ z, Hd (J x = z) := ⟨_, ⟨rfl⟩⟩
          rw [Hjx.out] at HD1 hjl
          have hji : (jx : Int) ≤ 9000000 := by omega
          clear hjl
          by_cases hlt : n < jx
          · have ta : (n : Int) < (jx : Int) := by omega
            have tb : (n : Int) - 2180438 < (jx : Int) - 2180438 := by omega
            have hx2' : 2 ≤ x := by
              rcases Nat.lt_or_ge x 2 with h | h
              · obtain rfl : x = 1 := by omega
                have h3 := HJ1.out
                rw [Hjx.out] at h3
                have := Hn2.out
                omega
              · exact h
            obtain ⟨x1, Hx1⟩ : ∃ z, Hd (z + 1 = x) := ⟨x - 1, ⟨by omega⟩⟩
            have wx : (x : Int) - 1 = (x1 : Int) := by have := Hx1.out; omega
            have hnx := hd (show n < J (x1 + 1) by rw [Hx1.out, Hjx.out]; exact hlt)
            go_wp2_with (first | (go_at_call 30; refine HD1.out.mono ?_; rintro e w5 ⟨rfl, e5⟩; rw [e5]; clear e5 w5))
            go_roundw
            case rel => exact ⟨x1, by have := Hx1.out; omega, by have := Hx1.out; omega, hnx.out, rfl, trivial⟩
            case measure => have := Hx1.out; simp [intOf]; omega
          · have ta : ¬ (n : Int) < (jx : Int) := by omega
            have tb : ¬ (n : Int) - 2180438 < (jx : Int) - 2180438 := by omega
            obtain ⟨rem, Hrem⟩ : ∃ z, Hd (n - jx = z) := ⟨_, ⟨rfl⟩⟩
            have we : (n : Int) - 2180438 - ((jx : Int) - 2180438) = (rem : Int) := by have := Hrem.out; omega
            have Hrj := hd (show rem + jx = n by have := Hrem.out; omega)
            go_wp2_with (first | (go_at_call 30; refine HD1.out.mono ?_; rintro e w5 ⟨rfl, e5⟩; rw [e5]; clear e5 w5))
            clear HD1 ta tb we hlt
            go_loopw [3, 6] (fun s3 s6 wr3 => ∃ m r : Nat, 1 ≤ m ∧ m ≤ 12 ∧ r + Cal.cum x (m - 1) + jx = n ∧ s6 = .int .i64 (m : Int) ∧ s3 = .int .i64 (r : Int) ∧ wr3 = w) (fun _ s6 _ => 12 - (intOf s6).toNat)
            case atStart => exact ⟨1, rem, by omega, by omega, by have := Hrj.out; simp [Cal.cum]; omega, rfl, rfl, rfl⟩
            case round =>
              clear Hrj Hrem
              obtain ⟨m, r, hm1, hm2, hmr, rfl, rfl, ew⟩ := hrel
              rw [ew]
              clear ew
              have Hmr := hd hmr
              have hr6 : r ≤ 6000000 := by have := Hn3.out; omega
              clear hmr
              have HMo := hd (month_any x m (by omega) w)
              obtain ⟨ml, Hml⟩ : ∃ z, Hd (Cal.month x m = z) := ⟨_, ⟨rfl⟩⟩
              rw [Hml.out] at HMo
              by_cases hge : ml ≤ r
              · have ta : (ml : Int) ≤ (r : Int) := by omega
                obtain ⟨r2, Hr2⟩ : ∃ z, Hd (z + ml = r) := ⟨r - ml, ⟨by omega⟩⟩
                have wr' : (r : Int) - (ml : Int) = (r2 : Int) := by have := Hr2.out; omega
                have hcs := hd (show Cal.cum x m = Cal.cum x (m - 1) + ml by
                  rw [← Hml.out]
                  obtain ⟨j, rfl⟩ : ∃ j, m = j + 1 := ⟨m - 1, by omega⟩
                  rfl)
                have hm12 := hd (show m + 1 ≤ 12 by
                  rcases Nat.lt_or_ge m 12 with h | h
                  · omega
                  · obtain rfl : m = 12 := by omega
                    have a1 := hcs.out
                    have a2 := (Cal.cum_is x).2.2.2.2.2.2.2.2.2.2.2.2
                    have a3 := HJst.out x
                    have a4 := Hxg.out
                    have a5 := Hmr.out
                    rw [Hjx.out] at a3
                    omega)
                have wm : IntKind.i64.wrap ((m : Int) + 1) = (m : Int) + 1 := IntWalk.i64_in _ (by omega)
                go_wp2_with (first | (go_at_call 29; refine HMo.out.mono ?_; rintro e w5 ⟨rfl, e5⟩; rw [e5]; clear e5 w5))
                go_roundw
                case rel => exact ⟨m + 1, r2, by omega, hm12.out, by have := hcs.out; have := Hmr.out; have := Hr2.out; rw [Nat.add_sub_cancel]; omega, by go_num, rfl, trivial⟩
                case measure => have := hm12.out; simp [intOf]; omega
              · have ta : ¬ (ml : Int) ≤ (r : Int) := by omega
                obtain ⟨k1, k2, k3⟩ := HF.out x m r hm1 hm2 (by rw [Hml.out]; omega) (by rw [Hjx.out]; exact Hmr.out)
                rw [k1] at HP0
                rw [k1, k2, k3] at HT0
                obtain ⟨d, Hd'⟩ : ∃ z, Hd (r + 1 = z) := ⟨_, ⟨rfl⟩⟩
                rw [Hd'.out] at HT0
                have wd : (r : Int) + 1 = (d : Int) := by have := Hd'.out; omega
                have hml31 : ml ≤ 31 := by rw [← Hml.out]; unfold Cal.month; split; omega; split; split <;> omega; omega
                have hd99 : d ≤ 31 := by have := Hd'.out; omega
                clear k1 k2 k3 hge
                obtain ⟨T, HT14⟩ : ∃ z, Hd (Cal.T14 t = z) := ⟨_, ⟨rfl⟩⟩
                rw [HT14.out] at HT0 HP0
                obtain ⟨v0, Hv0⟩ : ∃ z, Hd (x / 100 = z) := ⟨_, ⟨rfl⟩⟩
                have gv0 : v0 ≤ 99 := by have := Hv0.out; omega
                obtain ⟨v1, Hv1⟩ : ∃ z, Hd (x % 100 = z) := ⟨_, ⟨rfl⟩⟩
                have gv1 : v1 ≤ 99 := by have := Hv1.out; omega
                obtain ⟨v4, Hv4⟩ : ∃ z, Hd (R / 3600 = z) := ⟨_, ⟨rfl⟩⟩
                have gv4 : v4 ≤ 99 := by have := Hv4.out; omega
                obtain ⟨v5, Hv5⟩ : ∃ z, Hd (R / 60 % 60 = z) := ⟨_, ⟨rfl⟩⟩
                have gv5 : v5 ≤ 99 := by have := Hv5.out; omega
                obtain ⟨v6, Hv6⟩ : ∃ z, Hd (R % 60 = z) := ⟨_, ⟨rfl⟩⟩
                have gv6 : v6 ≤ 99 := by have := Hv6.out; omega
                unfold Cal.wT at HT0
                rw [Hv0.out, Hv1.out, Hv4.out, Hv5.out, Hv6.out] at HT0
                have HT := hd HT0.out.symm
                have x0 : (x : Int) / 100 = (v0 : Int) := by have := Hv0.out; omega
                have x1 : (x : Int) % 100 = (v1 : Int) := by have := Hv1.out; omega
                have x4 : (R : Int) / 3600 = (v4 : Int) := by have := Hv4.out; omega
                have x5 : (R : Int) / 60 % 60 = (v5 : Int) := by have := Hv5.out; omega
                have x6 : (R : Int) % 60 = (v6 : Int) := by have := Hv6.out; omega
                have own0 : OwnB w w.heap.size (.slice none 0 0) [] := OwnB.nil _ _
                have hB0 : Below w.heap.size w w := Below.refl _ _
                clear HDa HJs HJst HJm HJ1 HJx HJl HF Hxg Hjx Hmr HT0 HT14
                by_cases hlo : x < 1950
                · have t1 : (x : Int) < 1950 := by omega
                  have HPT := hd (show Cal.putT t = Der.put 24 (T ++ [90]) by rw [HP0.out, if_neg (by omega)])
                  clear hlo HP0
                  go_upto_region 22 with (first | (go_at_call 29; refine HMo.out.mono ?_; rintro e w5 ⟨rfl, e5⟩; rw [e5]; clear e5 w5))
                  have HTw22 := hd (two_any v0 (by omega) w)
                  obtain ⟨L22, HL22⟩ : ∃ z, Hd ((([] : List UInt8)).length = z) := ⟨_, ⟨rfl⟩⟩
                  have hL22 : L22 ≤ 20 := by rw [← HL22.out]; simp [Cal.dg]
                  go_upto_region 23 with (first
                    | (at_builtin; refine wpl_appendB rfl _ _ rfl w.heap.size _ (([] : List UInt8)) rfl ownW22 _ At22 2 ct22 (Cal.dg v0) rfl rdT22 (by rw [HL22.out]; simp [Cal.dg]; omega) hBW22.size ?_; intro va22 W322 own322 gr322 at322; have hB322 := below_appended hBW22 ownW22 gr322 (Nat.le_refl _) hBW22.size)
                    | (go_at_call 31; refine HTw22.out.mono ?_; rintro e W222 ⟨At22, ct22, rfl, ownT22, hBT22⟩; have ownW22 := own0.later hBT22; have hBW22 := hB0.trans (hBT22.mono hB0.size); have rdT22 := ownT22.reads_any.2))
                  obtain ⟨A22, c22, e22⟩ := own322.slice
                  subst e22
                  have HTw23 := hd (two_any v1 (by omega) W322)
                  obtain ⟨L23, HL23⟩ : ∃ z, Hd (((([] : List UInt8) ++ Cal.dg v0)).length = z) := ⟨_, ⟨rfl⟩⟩
                  have hL23 : L23 ≤ 20 := by rw [← HL23.out]; simp [Cal.dg]
                  go_upto_region 24 with (first
                    | (at_builtin; refine wpl_appendB rfl _ _ rfl w.heap.size _ ((([] : List UInt8) ++ Cal.dg v0)) rfl ownW23 _ At23 2 ct23 (Cal.dg v1) rfl rdT23 (by rw [HL23.out]; simp [Cal.dg]; omega) hBW23.size ?_; intro va23 W323 own323 gr323 at323; have hB323 := below_appended hBW23 ownW23 gr323 (Nat.le_refl _) hBW23.size)
                    | (go_at_call 31; refine HTw23.out.mono ?_; rintro e W223 ⟨At23, ct23, rfl, ownT23, hBT23⟩; have ownW23 := own322.later hBT23; have hBW23 := hB322.trans (hBT23.mono hB322.size); have rdT23 := ownT23.reads_any.2))
                  obtain ⟨A23, c23, e23⟩ := own323.slice
                  subst e23
                  have HTw24 := hd (two_any m (by omega) W323)
                  obtain ⟨L24, HL24⟩ : ∃ z, Hd ((((([] : List UInt8) ++ Cal.dg v0) ++ Cal.dg v1)).length = z) := ⟨_, ⟨rfl⟩⟩
                  have hL24 : L24 ≤ 20 := by rw [← HL24.out]; simp [Cal.dg]
                  go_upto_region 25 with (first
                    | (at_builtin; refine wpl_appendB rfl _ _ rfl w.heap.size _ (((([] : List UInt8) ++ Cal.dg v0) ++ Cal.dg v1)) rfl ownW24 _ At24 2 ct24 (Cal.dg m) rfl rdT24 (by rw [HL24.out]; simp [Cal.dg]; omega) hBW24.size ?_; intro va24 W324 own324 gr324 at324; have hB324 := below_appended hBW24 ownW24 gr324 (Nat.le_refl _) hBW24.size)
                    | (go_at_call 31; refine HTw24.out.mono ?_; rintro e W224 ⟨At24, ct24, rfl, ownT24, hBT24⟩; have ownW24 := own323.later hBT24; have hBW24 := hB323.trans (hBT24.mono hB323.size); have rdT24 := ownT24.reads_any.2))
                  obtain ⟨A24, c24, e24⟩ := own324.slice
                  subst e24
                  have HTw25 := hd (two_any d (by omega) W324)
                  obtain ⟨L25, HL25⟩ : ∃ z, Hd (((((([] : List UInt8) ++ Cal.dg v0) ++ Cal.dg v1) ++ Cal.dg m)).length = z) := ⟨_, ⟨rfl⟩⟩
                  have hL25 : L25 ≤ 20 := by rw [← HL25.out]; simp [Cal.dg]
                  go_upto_region 26 with (first
                    | (at_builtin; refine wpl_appendB rfl _ _ rfl w.heap.size _ ((((([] : List UInt8) ++ Cal.dg v0) ++ Cal.dg v1) ++ Cal.dg m)) rfl ownW25 _ At25 2 ct25 (Cal.dg d) rfl rdT25 (by rw [HL25.out]; simp [Cal.dg]; omega) hBW25.size ?_; intro va25 W325 own325 gr325 at325; have hB325 := below_appended hBW25 ownW25 gr325 (Nat.le_refl _) hBW25.size)
                    | (go_at_call 31; refine HTw25.out.mono ?_; rintro e W225 ⟨At25, ct25, rfl, ownT25, hBT25⟩; have ownW25 := own324.later hBT25; have hBW25 := hB324.trans (hBT25.mono hB324.size); have rdT25 := ownT25.reads_any.2))
                  obtain ⟨A25, c25, e25⟩ := own325.slice
                  subst e25
                  have HTw26 := hd (two_any v4 (by omega) W325)
                  obtain ⟨L26, HL26⟩ : ∃ z, Hd ((((((([] : List UInt8) ++ Cal.dg v0) ++ Cal.dg v1) ++ Cal.dg m) ++ Cal.dg d)).length = z) := ⟨_, ⟨rfl⟩⟩
                  have hL26 : L26 ≤ 20 := by rw [← HL26.out]; simp [Cal.dg]
                  go_upto_region 27 with (first
                    | (at_builtin; refine wpl_appendB rfl _ _ rfl w.heap.size _ (((((([] : List UInt8) ++ Cal.dg v0) ++ Cal.dg v1) ++ Cal.dg m) ++ Cal.dg d)) rfl ownW26 _ At26 2 ct26 (Cal.dg v4) rfl rdT26 (by rw [HL26.out]; simp [Cal.dg]; omega) hBW26.size ?_; intro va26 W326 own326 gr326 at326; have hB326 := below_appended hBW26 ownW26 gr326 (Nat.le_refl _) hBW26.size)
                    | (go_at_call 31; refine HTw26.out.mono ?_; rintro e W226 ⟨At26, ct26, rfl, ownT26, hBT26⟩; have ownW26 := own325.later hBT26; have hBW26 := hB325.trans (hBT26.mono hB325.size); have rdT26 := ownT26.reads_any.2))
                  obtain ⟨A26, c26, e26⟩ := own326.slice
                  subst e26
                  have HTw27 := hd (two_any v5 (by omega) W326)
                  obtain ⟨L27, HL27⟩ : ∃ z, Hd (((((((([] : List UInt8) ++ Cal.dg v0) ++ Cal.dg v1) ++ Cal.dg m) ++ Cal.dg d) ++ Cal.dg v4)).length = z) := ⟨_, ⟨rfl⟩⟩
                  have hL27 : L27 ≤ 20 := by rw [← HL27.out]; simp [Cal.dg]
                  go_upto_region 28 with (first
                    | (at_builtin; refine wpl_appendB rfl _ _ rfl w.heap.size _ ((((((([] : List UInt8) ++ Cal.dg v0) ++ Cal.dg v1) ++ Cal.dg m) ++ Cal.dg d) ++ Cal.dg v4)) rfl ownW27 _ At27 2 ct27 (Cal.dg v5) rfl rdT27 (by rw [HL27.out]; simp [Cal.dg]; omega) hBW27.size ?_; intro va27 W327 own327 gr327 at327; have hB327 := below_appended hBW27 ownW27 gr327 (Nat.le_refl _) hBW27.size)
                    | (go_at_call 31; refine HTw27.out.mono ?_; rintro e W227 ⟨At27, ct27, rfl, ownT27, hBT27⟩; have ownW27 := own326.later hBT27; have hBW27 := hB326.trans (hBT27.mono hB326.size); have rdT27 := ownT27.reads_any.2))
                  obtain ⟨A27, c27, e27⟩ := own327.slice
                  subst e27
                  have HTw28 := hd (two_any v6 (by omega) W327)
                  obtain ⟨L28, HL28⟩ : ∃ z, Hd ((((((((([] : List UInt8) ++ Cal.dg v0) ++ Cal.dg v1) ++ Cal.dg m) ++ Cal.dg d) ++ Cal.dg v4) ++ Cal.dg v5)).length = z) := ⟨_, ⟨rfl⟩⟩
                  have hL28 : L28 ≤ 20 := by rw [← HL28.out]; simp [Cal.dg]
                  go_upto_region 29 with (first
                    | (at_builtin; refine wpl_appendB rfl _ _ rfl w.heap.size _ (((((((([] : List UInt8) ++ Cal.dg v0) ++ Cal.dg v1) ++ Cal.dg m) ++ Cal.dg d) ++ Cal.dg v4) ++ Cal.dg v5)) rfl ownW28 _ At28 2 ct28 (Cal.dg v6) rfl rdT28 (by rw [HL28.out]; simp [Cal.dg]; omega) hBW28.size ?_; intro va28 W328 own328 gr328 at328; have hB328 := below_appended hBW28 ownW28 gr328 (Nat.le_refl _) hBW28.size)
                    | (go_at_call 31; refine HTw28.out.mono ?_; rintro e W228 ⟨At28, ct28, rfl, ownT28, hBT28⟩; have ownW28 := own327.later hBT28; have hBW28 := hB327.trans (hBT28.mono hB327.size); have rdT28 := ownT28.reads_any.2))
                  obtain ⟨A28, c28, e28⟩ := own328.slice
                  subst e28
                  have hEz := hd (show Below W328.heap.size W328 (W328.alloc (.cells #[.int .u8 90] 5)) from (Below.refl _ _).alloc (Nat.le_refl _) _)
                  have HRz := hd (show ReadsB (W328.alloc (.cells #[.int .u8 90] 5)) (W328.alloc (.cells #[.int .u8 90] 5)).heap.size (some ⟨W328.heap.size, 0, none⟩) 1 [90] from (OwnB.lits (w := W328) [90] _ rfl (by simp)).reads)
                  have Howz := hd (own328.later hEz.out)
                  have HBz := hd (hB328.trans (hEz.out.mono hB328.size))
                  have HLz := hd (show (((((((([] : List UInt8) ++ Cal.dg v0) ++ Cal.dg v1) ++ Cal.dg m) ++ Cal.dg d) ++ Cal.dg v4) ++ Cal.dg v5) ++ Cal.dg v6) ++ [90] = T ++ [90] by rw [← HT.out]; rfl)
                  have HBl := hd (show (T ++ [90]).length = 15 by rw [← HT.out]; rfl)
                  obtain ⟨Lz, HLzz⟩ : ∃ z, Hd (((((((((([] : List UInt8) ++ Cal.dg v0) ++ Cal.dg v1) ++ Cal.dg m) ++ Cal.dg d) ++ Cal.dg v4) ++ Cal.dg v5) ++ Cal.dg v6)).length = z) := ⟨_, ⟨rfl⟩⟩
                  have hLz : Lz ≤ 20 := by rw [← HLzz.out]; simp [Cal.dg]
                  go_wp2_with (first
                    | (go_at_call 32; refine HPp.out.mono ?_; rintro e w9 ⟨v9, rfl, own9, hB9⟩)
                    | (at_builtin; refine wpl_appendB rfl _ _ rfl w.heap.size _ ((((((((([] : List UInt8) ++ Cal.dg v0) ++ Cal.dg v1) ++ Cal.dg m) ++ Cal.dg d) ++ Cal.dg v4) ++ Cal.dg v5) ++ Cal.dg v6)) rfl Howz.out _ (some ⟨W328.heap.size, 0, none⟩) 1 1 [90] rfl HRz.out (by rw [HLzz.out]; simp; omega) HBz.out.size ?_; intro vz wz ownz grz atz; have hBz := below_appended HBz.out Howz.out grz (Nat.le_refl _) HBz.out.size; rw [HLz.out] at ownz; obtain ⟨Az, cz, ez⟩ := ownz.slice; rw [HBl.out] at ez; subst ez; have HPp := hd (rput_short 24 (by decide) Az 15 cz (T ++ [90]) (by decide) wz ⟨HBl.out, ownz.reads_any.2.is⟩)))
                  go_ret
                  refine ⟨_, rfl, fun _ => ?_, fun h => absurd Hin.out h, hBz.trans (hB9.mono hBz.size)⟩
                  rw [HPT.out]
                  exact own9.low hBz.size
                have t1 : ¬ (x : Int) < 1950 := by omega
                by_cases hhi : 2049 < x
                · have t2 : (2049 : Int) < (x : Int) := by omega
                  have HPT := hd (show Cal.putT t = Der.put 24 (T ++ [90]) by rw [HP0.out, if_neg (by omega)])
                  clear hlo hhi HP0
                  go_upto_region 22 with (first | (go_at_call 29; refine HMo.out.mono ?_; rintro e w5 ⟨rfl, e5⟩; rw [e5]; clear e5 w5))
                  have HTw22 := hd (two_any v0 (by omega) w)
                  obtain ⟨L22, HL22⟩ : ∃ z, Hd ((([] : List UInt8)).length = z) := ⟨_, ⟨rfl⟩⟩
                  have hL22 : L22 ≤ 20 := by rw [← HL22.out]; simp [Cal.dg]
                  go_upto_region 23 with (first
                    | (at_builtin; refine wpl_appendB rfl _ _ rfl w.heap.size _ (([] : List UInt8)) rfl ownW22 _ At22 2 ct22 (Cal.dg v0) rfl rdT22 (by rw [HL22.out]; simp [Cal.dg]; omega) hBW22.size ?_; intro va22 W322 own322 gr322 at322; have hB322 := below_appended hBW22 ownW22 gr322 (Nat.le_refl _) hBW22.size)
                    | (go_at_call 31; refine HTw22.out.mono ?_; rintro e W222 ⟨At22, ct22, rfl, ownT22, hBT22⟩; have ownW22 := own0.later hBT22; have hBW22 := hB0.trans (hBT22.mono hB0.size); have rdT22 := ownT22.reads_any.2))
                  obtain ⟨A22, c22, e22⟩ := own322.slice
                  subst e22
                  have HTw23 := hd (two_any v1 (by omega) W322)
                  obtain ⟨L23, HL23⟩ : ∃ z, Hd (((([] : List UInt8) ++ Cal.dg v0)).length = z) := ⟨_, ⟨rfl⟩⟩
                  have hL23 : L23 ≤ 20 := by rw [← HL23.out]; simp [Cal.dg]
                  go_upto_region 24 with (first
                    | (at_builtin; refine wpl_appendB rfl _ _ rfl w.heap.size _ ((([] : List UInt8) ++ Cal.dg v0)) rfl ownW23 _ At23 2 ct23 (Cal.dg v1) rfl rdT23 (by rw [HL23.out]; simp [Cal.dg]; omega) hBW23.size ?_; intro va23 W323 own323 gr323 at323; have hB323 := below_appended hBW23 ownW23 gr323 (Nat.le_refl _) hBW23.size)
                    | (go_at_call 31; refine HTw23.out.mono ?_; rintro e W223 ⟨At23, ct23, rfl, ownT23, hBT23⟩; have ownW23 := own322.later hBT23; have hBW23 := hB322.trans (hBT23.mono hB322.size); have rdT23 := ownT23.reads_any.2))
                  obtain ⟨A23, c23, e23⟩ := own323.slice
                  subst e23
                  have HTw24 := hd (two_any m (by omega) W323)
                  obtain ⟨L24, HL24⟩ : ∃ z, Hd ((((([] : List UInt8) ++ Cal.dg v0) ++ Cal.dg v1)).length = z) := ⟨_, ⟨rfl⟩⟩
                  have hL24 : L24 ≤ 20 := by rw [← HL24.out]; simp [Cal.dg]
                  go_upto_region 25 with (first
                    | (at_builtin; refine wpl_appendB rfl _ _ rfl w.heap.size _ (((([] : List UInt8) ++ Cal.dg v0) ++ Cal.dg v1)) rfl ownW24 _ At24 2 ct24 (Cal.dg m) rfl rdT24 (by rw [HL24.out]; simp [Cal.dg]; omega) hBW24.size ?_; intro va24 W324 own324 gr324 at324; have hB324 := below_appended hBW24 ownW24 gr324 (Nat.le_refl _) hBW24.size)
                    | (go_at_call 31; refine HTw24.out.mono ?_; rintro e W224 ⟨At24, ct24, rfl, ownT24, hBT24⟩; have ownW24 := own323.later hBT24; have hBW24 := hB323.trans (hBT24.mono hB323.size); have rdT24 := ownT24.reads_any.2))
                  obtain ⟨A24, c24, e24⟩ := own324.slice
                  subst e24
                  have HTw25 := hd (two_any d (by omega) W324)
                  obtain ⟨L25, HL25⟩ : ∃ z, Hd (((((([] : List UInt8) ++ Cal.dg v0) ++ Cal.dg v1) ++ Cal.dg m)).length = z) := ⟨_, ⟨rfl⟩⟩
                  have hL25 : L25 ≤ 20 := by rw [← HL25.out]; simp [Cal.dg]
                  go_upto_region 26 with (first
                    | (at_builtin; refine wpl_appendB rfl _ _ rfl w.heap.size _ ((((([] : List UInt8) ++ Cal.dg v0) ++ Cal.dg v1) ++ Cal.dg m)) rfl ownW25 _ At25 2 ct25 (Cal.dg d) rfl rdT25 (by rw [HL25.out]; simp [Cal.dg]; omega) hBW25.size ?_; intro va25 W325 own325 gr325 at325; have hB325 := below_appended hBW25 ownW25 gr325 (Nat.le_refl _) hBW25.size)
                    | (go_at_call 31; refine HTw25.out.mono ?_; rintro e W225 ⟨At25, ct25, rfl, ownT25, hBT25⟩; have ownW25 := own324.later hBT25; have hBW25 := hB324.trans (hBT25.mono hB324.size); have rdT25 := ownT25.reads_any.2))
                  obtain ⟨A25, c25, e25⟩ := own325.slice
                  subst e25
                  have HTw26 := hd (two_any v4 (by omega) W325)
                  obtain ⟨L26, HL26⟩ : ∃ z, Hd ((((((([] : List UInt8) ++ Cal.dg v0) ++ Cal.dg v1) ++ Cal.dg m) ++ Cal.dg d)).length = z) := ⟨_, ⟨rfl⟩⟩
                  have hL26 : L26 ≤ 20 := by rw [← HL26.out]; simp [Cal.dg]
                  go_upto_region 27 with (first
                    | (at_builtin; refine wpl_appendB rfl _ _ rfl w.heap.size _ (((((([] : List UInt8) ++ Cal.dg v0) ++ Cal.dg v1) ++ Cal.dg m) ++ Cal.dg d)) rfl ownW26 _ At26 2 ct26 (Cal.dg v4) rfl rdT26 (by rw [HL26.out]; simp [Cal.dg]; omega) hBW26.size ?_; intro va26 W326 own326 gr326 at326; have hB326 := below_appended hBW26 ownW26 gr326 (Nat.le_refl _) hBW26.size)
                    | (go_at_call 31; refine HTw26.out.mono ?_; rintro e W226 ⟨At26, ct26, rfl, ownT26, hBT26⟩; have ownW26 := own325.later hBT26; have hBW26 := hB325.trans (hBT26.mono hB325.size); have rdT26 := ownT26.reads_any.2))
                  obtain ⟨A26, c26, e26⟩ := own326.slice
                  subst e26
                  have HTw27 := hd (two_any v5 (by omega) W326)
                  obtain ⟨L27, HL27⟩ : ∃ z, Hd (((((((([] : List UInt8) ++ Cal.dg v0) ++ Cal.dg v1) ++ Cal.dg m) ++ Cal.dg d) ++ Cal.dg v4)).length = z) := ⟨_, ⟨rfl⟩⟩
                  have hL27 : L27 ≤ 20 := by rw [← HL27.out]; simp [Cal.dg]
                  go_upto_region 28 with (first
                    | (at_builtin; refine wpl_appendB rfl _ _ rfl w.heap.size _ ((((((([] : List UInt8) ++ Cal.dg v0) ++ Cal.dg v1) ++ Cal.dg m) ++ Cal.dg d) ++ Cal.dg v4)) rfl ownW27 _ At27 2 ct27 (Cal.dg v5) rfl rdT27 (by rw [HL27.out]; simp [Cal.dg]; omega) hBW27.size ?_; intro va27 W327 own327 gr327 at327; have hB327 := below_appended hBW27 ownW27 gr327 (Nat.le_refl _) hBW27.size)
                    | (go_at_call 31; refine HTw27.out.mono ?_; rintro e W227 ⟨At27, ct27, rfl, ownT27, hBT27⟩; have ownW27 := own326.later hBT27; have hBW27 := hB326.trans (hBT27.mono hB326.size); have rdT27 := ownT27.reads_any.2))
                  obtain ⟨A27, c27, e27⟩ := own327.slice
                  subst e27
                  have HTw28 := hd (two_any v6 (by omega) W327)
                  obtain ⟨L28, HL28⟩ : ∃ z, Hd ((((((((([] : List UInt8) ++ Cal.dg v0) ++ Cal.dg v1) ++ Cal.dg m) ++ Cal.dg d) ++ Cal.dg v4) ++ Cal.dg v5)).length = z) := ⟨_, ⟨rfl⟩⟩
                  have hL28 : L28 ≤ 20 := by rw [← HL28.out]; simp [Cal.dg]
                  go_upto_region 29 with (first
                    | (at_builtin; refine wpl_appendB rfl _ _ rfl w.heap.size _ (((((((([] : List UInt8) ++ Cal.dg v0) ++ Cal.dg v1) ++ Cal.dg m) ++ Cal.dg d) ++ Cal.dg v4) ++ Cal.dg v5)) rfl ownW28 _ At28 2 ct28 (Cal.dg v6) rfl rdT28 (by rw [HL28.out]; simp [Cal.dg]; omega) hBW28.size ?_; intro va28 W328 own328 gr328 at328; have hB328 := below_appended hBW28 ownW28 gr328 (Nat.le_refl _) hBW28.size)
                    | (go_at_call 31; refine HTw28.out.mono ?_; rintro e W228 ⟨At28, ct28, rfl, ownT28, hBT28⟩; have ownW28 := own327.later hBT28; have hBW28 := hB327.trans (hBT28.mono hB327.size); have rdT28 := ownT28.reads_any.2))
                  obtain ⟨A28, c28, e28⟩ := own328.slice
                  subst e28
                  have hEz := hd (show Below W328.heap.size W328 (W328.alloc (.cells #[.int .u8 90] 5)) from (Below.refl _ _).alloc (Nat.le_refl _) _)
                  have HRz := hd (show ReadsB (W328.alloc (.cells #[.int .u8 90] 5)) (W328.alloc (.cells #[.int .u8 90] 5)).heap.size (some ⟨W328.heap.size, 0, none⟩) 1 [90] from (OwnB.lits (w := W328) [90] _ rfl (by simp)).reads)
                  have Howz := hd (own328.later hEz.out)
                  have HBz := hd (hB328.trans (hEz.out.mono hB328.size))
                  have HLz := hd (show (((((((([] : List UInt8) ++ Cal.dg v0) ++ Cal.dg v1) ++ Cal.dg m) ++ Cal.dg d) ++ Cal.dg v4) ++ Cal.dg v5) ++ Cal.dg v6) ++ [90] = T ++ [90] by rw [← HT.out]; rfl)
                  have HBl := hd (show (T ++ [90]).length = 15 by rw [← HT.out]; rfl)
                  obtain ⟨Lz, HLzz⟩ : ∃ z, Hd (((((((((([] : List UInt8) ++ Cal.dg v0) ++ Cal.dg v1) ++ Cal.dg m) ++ Cal.dg d) ++ Cal.dg v4) ++ Cal.dg v5) ++ Cal.dg v6)).length = z) := ⟨_, ⟨rfl⟩⟩
                  have hLz : Lz ≤ 20 := by rw [← HLzz.out]; simp [Cal.dg]
                  go_wp2_with (first
                    | (go_at_call 32; refine HPp.out.mono ?_; rintro e w9 ⟨v9, rfl, own9, hB9⟩)
                    | (at_builtin; refine wpl_appendB rfl _ _ rfl w.heap.size _ ((((((((([] : List UInt8) ++ Cal.dg v0) ++ Cal.dg v1) ++ Cal.dg m) ++ Cal.dg d) ++ Cal.dg v4) ++ Cal.dg v5) ++ Cal.dg v6)) rfl Howz.out _ (some ⟨W328.heap.size, 0, none⟩) 1 1 [90] rfl HRz.out (by rw [HLzz.out]; simp; omega) HBz.out.size ?_; intro vz wz ownz grz atz; have hBz := below_appended HBz.out Howz.out grz (Nat.le_refl _) HBz.out.size; rw [HLz.out] at ownz; obtain ⟨Az, cz, ez⟩ := ownz.slice; rw [HBl.out] at ez; subst ez; have HPp := hd (rput_short 24 (by decide) Az 15 cz (T ++ [90]) (by decide) wz ⟨HBl.out, ownz.reads_any.2.is⟩)))
                  go_ret
                  refine ⟨_, rfl, fun _ => ?_, fun h => absurd Hin.out h, hBz.trans (hB9.mono hBz.size)⟩
                  rw [HPT.out]
                  exact own9.low hBz.size
                have t2 : ¬ (2049 : Int) < (x : Int) := by omega
                have HPT := hd (show Cal.putT t = Der.put 23 (T.drop 2 ++ [90]) by rw [HP0.out, if_pos ⟨by omega, by omega⟩])
                clear hlo hhi HP0
                go_upto_region 23 with (first | (go_at_call 29; refine HMo.out.mono ?_; rintro e w5 ⟨rfl, e5⟩; rw [e5]; clear e5 w5))
                have HTw23 := hd (two_any v1 (by omega) w)
                obtain ⟨L23, HL23⟩ : ∃ z, Hd ((([] : List UInt8)).length = z) := ⟨_, ⟨rfl⟩⟩
                have hL23 : L23 ≤ 20 := by rw [← HL23.out]; simp [Cal.dg]
                go_upto_region 24 with (first
                  | (at_builtin; refine wpl_appendB rfl _ _ rfl w.heap.size _ (([] : List UInt8)) rfl ownW23 _ At23 2 ct23 (Cal.dg v1) rfl rdT23 (by rw [HL23.out]; simp [Cal.dg]; omega) hBW23.size ?_; intro va23 W323 own323 gr323 at323; have hB323 := below_appended hBW23 ownW23 gr323 (Nat.le_refl _) hBW23.size)
                  | (go_at_call 31; refine HTw23.out.mono ?_; rintro e W223 ⟨At23, ct23, rfl, ownT23, hBT23⟩; have ownW23 := own0.later hBT23; have hBW23 := hB0.trans (hBT23.mono hB0.size); have rdT23 := ownT23.reads_any.2))
                obtain ⟨A23, c23, e23⟩ := own323.slice
                subst e23
                have HTw24 := hd (two_any m (by omega) W323)
                obtain ⟨L24, HL24⟩ : ∃ z, Hd (((([] : List UInt8) ++ Cal.dg v1)).length = z) := ⟨_, ⟨rfl⟩⟩
                have hL24 : L24 ≤ 20 := by rw [← HL24.out]; simp [Cal.dg]
                go_upto_region 25 with (first
                  | (at_builtin; refine wpl_appendB rfl _ _ rfl w.heap.size _ ((([] : List UInt8) ++ Cal.dg v1)) rfl ownW24 _ At24 2 ct24 (Cal.dg m) rfl rdT24 (by rw [HL24.out]; simp [Cal.dg]; omega) hBW24.size ?_; intro va24 W324 own324 gr324 at324; have hB324 := below_appended hBW24 ownW24 gr324 (Nat.le_refl _) hBW24.size)
                  | (go_at_call 31; refine HTw24.out.mono ?_; rintro e W224 ⟨At24, ct24, rfl, ownT24, hBT24⟩; have ownW24 := own323.later hBT24; have hBW24 := hB323.trans (hBT24.mono hB323.size); have rdT24 := ownT24.reads_any.2))
                obtain ⟨A24, c24, e24⟩ := own324.slice
                subst e24
                have HTw25 := hd (two_any d (by omega) W324)
                obtain ⟨L25, HL25⟩ : ∃ z, Hd ((((([] : List UInt8) ++ Cal.dg v1) ++ Cal.dg m)).length = z) := ⟨_, ⟨rfl⟩⟩
                have hL25 : L25 ≤ 20 := by rw [← HL25.out]; simp [Cal.dg]
                go_upto_region 26 with (first
                  | (at_builtin; refine wpl_appendB rfl _ _ rfl w.heap.size _ (((([] : List UInt8) ++ Cal.dg v1) ++ Cal.dg m)) rfl ownW25 _ At25 2 ct25 (Cal.dg d) rfl rdT25 (by rw [HL25.out]; simp [Cal.dg]; omega) hBW25.size ?_; intro va25 W325 own325 gr325 at325; have hB325 := below_appended hBW25 ownW25 gr325 (Nat.le_refl _) hBW25.size)
                  | (go_at_call 31; refine HTw25.out.mono ?_; rintro e W225 ⟨At25, ct25, rfl, ownT25, hBT25⟩; have ownW25 := own324.later hBT25; have hBW25 := hB324.trans (hBT25.mono hB324.size); have rdT25 := ownT25.reads_any.2))
                obtain ⟨A25, c25, e25⟩ := own325.slice
                subst e25
                have HTw26 := hd (two_any v4 (by omega) W325)
                obtain ⟨L26, HL26⟩ : ∃ z, Hd (((((([] : List UInt8) ++ Cal.dg v1) ++ Cal.dg m) ++ Cal.dg d)).length = z) := ⟨_, ⟨rfl⟩⟩
                have hL26 : L26 ≤ 20 := by rw [← HL26.out]; simp [Cal.dg]
                go_upto_region 27 with (first
                  | (at_builtin; refine wpl_appendB rfl _ _ rfl w.heap.size _ ((((([] : List UInt8) ++ Cal.dg v1) ++ Cal.dg m) ++ Cal.dg d)) rfl ownW26 _ At26 2 ct26 (Cal.dg v4) rfl rdT26 (by rw [HL26.out]; simp [Cal.dg]; omega) hBW26.size ?_; intro va26 W326 own326 gr326 at326; have hB326 := below_appended hBW26 ownW26 gr326 (Nat.le_refl _) hBW26.size)
                  | (go_at_call 31; refine HTw26.out.mono ?_; rintro e W226 ⟨At26, ct26, rfl, ownT26, hBT26⟩; have ownW26 := own325.later hBT26; have hBW26 := hB325.trans (hBT26.mono hB325.size); have rdT26 := ownT26.reads_any.2))
                obtain ⟨A26, c26, e26⟩ := own326.slice
                subst e26
                have HTw27 := hd (two_any v5 (by omega) W326)
                obtain ⟨L27, HL27⟩ : ∃ z, Hd ((((((([] : List UInt8) ++ Cal.dg v1) ++ Cal.dg m) ++ Cal.dg d) ++ Cal.dg v4)).length = z) := ⟨_, ⟨rfl⟩⟩
                have hL27 : L27 ≤ 20 := by rw [← HL27.out]; simp [Cal.dg]
                go_upto_region 28 with (first
                  | (at_builtin; refine wpl_appendB rfl _ _ rfl w.heap.size _ (((((([] : List UInt8) ++ Cal.dg v1) ++ Cal.dg m) ++ Cal.dg d) ++ Cal.dg v4)) rfl ownW27 _ At27 2 ct27 (Cal.dg v5) rfl rdT27 (by rw [HL27.out]; simp [Cal.dg]; omega) hBW27.size ?_; intro va27 W327 own327 gr327 at327; have hB327 := below_appended hBW27 ownW27 gr327 (Nat.le_refl _) hBW27.size)
                  | (go_at_call 31; refine HTw27.out.mono ?_; rintro e W227 ⟨At27, ct27, rfl, ownT27, hBT27⟩; have ownW27 := own326.later hBT27; have hBW27 := hB326.trans (hBT27.mono hB326.size); have rdT27 := ownT27.reads_any.2))
                obtain ⟨A27, c27, e27⟩ := own327.slice
                subst e27
                have HTw28 := hd (two_any v6 (by omega) W327)
                obtain ⟨L28, HL28⟩ : ∃ z, Hd (((((((([] : List UInt8) ++ Cal.dg v1) ++ Cal.dg m) ++ Cal.dg d) ++ Cal.dg v4) ++ Cal.dg v5)).length = z) := ⟨_, ⟨rfl⟩⟩
                have hL28 : L28 ≤ 20 := by rw [← HL28.out]; simp [Cal.dg]
                go_upto_region 29 with (first
                  | (at_builtin; refine wpl_appendB rfl _ _ rfl w.heap.size _ ((((((([] : List UInt8) ++ Cal.dg v1) ++ Cal.dg m) ++ Cal.dg d) ++ Cal.dg v4) ++ Cal.dg v5)) rfl ownW28 _ At28 2 ct28 (Cal.dg v6) rfl rdT28 (by rw [HL28.out]; simp [Cal.dg]; omega) hBW28.size ?_; intro va28 W328 own328 gr328 at328; have hB328 := below_appended hBW28 ownW28 gr328 (Nat.le_refl _) hBW28.size)
                  | (go_at_call 31; refine HTw28.out.mono ?_; rintro e W228 ⟨At28, ct28, rfl, ownT28, hBT28⟩; have ownW28 := own327.later hBT28; have hBW28 := hB327.trans (hBT28.mono hB327.size); have rdT28 := ownT28.reads_any.2))
                obtain ⟨A28, c28, e28⟩ := own328.slice
                subst e28
                have hEz := hd (show Below W328.heap.size W328 (W328.alloc (.cells #[.int .u8 90] 5)) from (Below.refl _ _).alloc (Nat.le_refl _) _)
                have HRz := hd (show ReadsB (W328.alloc (.cells #[.int .u8 90] 5)) (W328.alloc (.cells #[.int .u8 90] 5)).heap.size (some ⟨W328.heap.size, 0, none⟩) 1 [90] from (OwnB.lits (w := W328) [90] _ rfl (by simp)).reads)
                have Howz := hd (own328.later hEz.out)
                have HBz := hd (hB328.trans (hEz.out.mono hB328.size))
                have HLz := hd (show ((((((([] : List UInt8) ++ Cal.dg v1) ++ Cal.dg m) ++ Cal.dg d) ++ Cal.dg v4) ++ Cal.dg v5) ++ Cal.dg v6) ++ [90] = T.drop 2 ++ [90] by rw [← HT.out]; rfl)
                have HBl := hd (show (T.drop 2 ++ [90]).length = 13 by rw [← HT.out]; rfl)
                obtain ⟨Lz, HLzz⟩ : ∃ z, Hd ((((((((([] : List UInt8) ++ Cal.dg v1) ++ Cal.dg m) ++ Cal.dg d) ++ Cal.dg v4) ++ Cal.dg v5) ++ Cal.dg v6)).length = z) := ⟨_, ⟨rfl⟩⟩
                have hLz : Lz ≤ 20 := by rw [← HLzz.out]; simp [Cal.dg]
                go_wp2_with (first
                  | (go_at_call 32; refine HPp.out.mono ?_; rintro e w9 ⟨v9, rfl, own9, hB9⟩)
                  | (at_builtin; refine wpl_appendB rfl _ _ rfl w.heap.size _ (((((((([] : List UInt8) ++ Cal.dg v1) ++ Cal.dg m) ++ Cal.dg d) ++ Cal.dg v4) ++ Cal.dg v5) ++ Cal.dg v6)) rfl Howz.out _ (some ⟨W328.heap.size, 0, none⟩) 1 1 [90] rfl HRz.out (by rw [HLzz.out]; simp; omega) HBz.out.size ?_; intro vz wz ownz grz atz; have hBz := below_appended HBz.out Howz.out grz (Nat.le_refl _) HBz.out.size; rw [HLz.out] at ownz; obtain ⟨Az, cz, ez⟩ := ownz.slice; rw [HBl.out] at ez; subst ez; have HPp := hd (rput_short 23 (by decide) Az 13 cz (T.drop 2 ++ [90]) (by decide) wz ⟨HBl.out, ownz.reads_any.2.is⟩)))
                go_ret
                refine ⟨_, rfl, fun _ => ?_, fun h => absurd Hin.out h, hBz.trans (hB9.mono hBz.size)⟩
                rw [HPT.out]
                exact own9.low hBz.size
end Go.Proofs.YthkggeohdclffaaDoor
