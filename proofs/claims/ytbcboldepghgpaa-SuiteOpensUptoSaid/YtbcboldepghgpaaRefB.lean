/-
  The walk of the reference's stream.
-/
import Derived.Test.YtbcboldepghgpaaRefA
import Derived.Test.YtbcboldepghgpaaStreamA
import Derived.Test.YtbcboldepghgpaaJa
set_option linter.unusedVariables false
set_option linter.unusedSimpArgs false
set_option maxRecDepth 100000
namespace Go.Proofs.Ytbcboldepghgpaa
open Go.RowKit
set_option maxHeartbeats 4000000 in
set_option maxRecDepth 100000 in
theorem ref_stream_any (g : Nat) (rs : List (List UInt8)) (hrs : 1 ≤ rs.length) (hrl : rs.length ≤ 15) (ctr : List UInt8) (hc : ctr.length = 16) (A : Option Addr) (n c : Nat) (b : List UInt8) (w : World) (hk : RefAt w g rs) (hr : ReadsB w w.heap.size A n b) (hn : n ≤ 140737488355328) :
    Calls Try.prog 68 #[.pointer (some ⟨g, 0, none⟩), .agg (arr ctr), .slice A n c] w fun e w' => ∃ v, e = .returned v ∧ OwnB w' w.heap.size v (Aes.stream rs ctr b) ∧ Below w.heap.size w w' := by
  have Hc := hd hc
  have Hbl := hd hr.len
  have Hrs := hd (And.intro hrs hrl)
  clear hc hrs hrl
  obtain ⟨S, HS⟩ : ∃ s, Hd (Aes.stream rs ctr b = s) := ⟨_, ⟨rfl⟩⟩
  have HSl := hd (show S.length = n by rw [← HS.out, Aes.stream_len, Hbl.out])
  rw [HS.out]
  obtain ⟨N0, HN0⟩ : ∃ x, Hd (Aes.be ctr = x) := ⟨_, ⟨rfl⟩⟩
  have hbe : (nth ctr 12).toUInt32 <<< 24 ||| (nth ctr 13).toUInt32 <<< 16 ||| (nth ctr 14).toUInt32 <<< 8 ||| (nth ctr 15).toUInt32 = N0 := HN0.out
  have Hbe := hd hbe
  clear hbe
  have a0 : Blk (w.alloc (.cells (arr ctr) 104)) w.heap.size 104 (arr ctr) := Blk.nu rfl
  have k12 := a0.arr_cell 12 (by rw [Hc.out]; omega)
  have k13 := a0.arr_cell 13 (by rw [Hc.out]; omega)
  have k14 := a0.arr_cell 14 (by rw [Hc.out]; omega)
  have k15 := a0.arr_cell 15 (by rw [Hc.out]; omega)
  go_enter Try.func68, Try.ntmps68
  go_wp2_with (refine wpl_alloc rfl 104 rfl _ zero16 ?_)
  rw [Hbe.out]
  refine wp_name (fun wo => Blk wo w.heap.size 104 (arr ctr) ∧ Blk wo (w.heap.size + 1) 104 (arr (List.replicate 16 0)) ∧ Below w.heap.size w wo ∧ OwnB wo w.heap.size (.slice none 0 0) []) ⟨(Blk.nu (by simp)).alloc _, Blk.nu (by simp), ((Below.refl _ _).alloc (by simp) _).alloc (by simp) _, OwnB.nil _ _⟩ ?_
  rintro wo ⟨ab, xb, hB, own⟩
  clear a0 k12 k13 k14 k15
  go_loopw [7, 8, 10] (fun nv v i wr => ∃ k : Nat, k ≤ n ∧ i = .int .i64 (k : Int) ∧ nv = .int .u32 ((n32 (N0 + UInt32.ofNat ((k + 15) / 16)) : Nat) : Int) ∧ OwnB wr w.heap.size v (S.take k) ∧
    (∃ at_, at_.length = 16 ∧ (∀ X, Aes.setBE at_ X = Aes.setBE ctr X) ∧ Blk wr w.heap.size 104 (arr at_)) ∧ (∃ x, x.length = 16 ∧ (k % 16 ≠ 0 → Aes.enc rs (Aes.incN (k / 16) ctr) = x) ∧ Blk wr (w.heap.size + 1) 104 (arr x)) ∧ Below w.heap.size w wr) (fun _ _ i _ => n - (intOf i).toNat)
  case atStart => exact ⟨0, by omega, rfl, by show _ = Value.int .u32 ((n32 (N0 + 0) : Nat) : Int); rw [UInt32.add_zero], own, ⟨ctr, Hc.out, fun _ => rfl, ab⟩, ⟨_, List.length_replicate, fun h => absurd rfl h, xb⟩, hB⟩
  case round =>
    clear ab xb hB own
    obtain ⟨k, hkn, rfl, rfl, own, ⟨at_, hal, hat, ab⟩, ⟨x, hxl, hx, xb⟩, hB⟩ := hrel
    by_cases hlt : k < n
    · have tk : (k : Int) < (n : Int) := by omega
      obtain ⟨ad, hA, had, hcw⟩ := hr.cell hlt
      subst hA
      have Hal := hd hal
      have Hat := hd hat
      have Hxl := hd hxl
      have Hxx := hd hx
      clear hal hat hxl hx
      by_cases hk0 : k % 16 = 0
      · have vm : (k : Int).tmod 16 = 0 := by rw [Int.tmod_eq_emod_of_nonneg (by omega)]; omega
        have Hk0 := hd hk0
        clear hk0
        obtain ⟨N, HN⟩ : ∃ x, Hd (N0 + UInt32.ofNat ((k + 15) / 16) = x) := ⟨_, ⟨rfl⟩⟩
        rw [HN.out]
        have hN2 : N + 1 = N0 + UInt32.ofNat ((k + 1 + 15) / 16) := by
          rw [show (k + 1 + 15) / 16 = (k + 15) / 16 + 1 by have := Hk0.out; omega, ofNat32_succ, ← UInt32.add_assoc, HN.out]
        have HN2 := hd hN2
        clear hN2
        have f12 := ab.frozen 12
        have f13 := ab.frozen 13
        have f14 := ab.frozen 14
        have f15 := ab.frozen 15
        have k12 := ab.arr_cell 12 (by rw [Hal.out]; omega)
        have k13 := ab.arr_cell 13 (by rw [Hal.out]; omega)
        have k14 := ab.arr_cell 14 (by rw [Hal.out]; omega)
        have k15 := ab.arr_cell 15 (by rw [Hal.out]; omega)
        have a4 := (((ab.arr_set 12 (N >>> 24).toUInt8).arr_set 13 (N >>> 16).toUInt8).arr_set 14 (N >>> 8).toUInt8).arr_set 15 N.toUInt8
        have x4 := (((xb.far (p := ⟨w.heap.size, 12, none⟩) (by simp) (.int .u8 (n8 (N >>> 24).toUInt8))).far (p := ⟨w.heap.size, 13, none⟩) (by simp) (.int .u8 (n8 (N >>> 16).toUInt8))).far (p := ⟨w.heap.size, 14, none⟩) (by simp) (.int .u8 (n8 (N >>> 8).toUInt8))).far (p := ⟨w.heap.size, 15, none⟩) (by simp) (.int .u8 (n8 N.toUInt8))
        have hne : u8.ownBlock ≠ some w.heap.size := own_blk_ne own.own ab (by decide)
        have o4 := (((own.far (p := ⟨w.heap.size, 12, none⟩) hne (.int .u8 (n8 (N >>> 24).toUInt8))).far (p := ⟨w.heap.size, 13, none⟩) hne (.int .u8 (n8 (N >>> 16).toUInt8))).far (p := ⟨w.heap.size, 14, none⟩) hne (.int .u8 (n8 (N >>> 8).toUInt8))).far (p := ⟨w.heap.size, 15, none⟩) hne (.int .u8 (n8 N.toUInt8))
        have hB4 := (((hB.setCell (p := ⟨w.heap.size, 12, none⟩) (by simp) (.int .u8 (n8 (N >>> 24).toUInt8))).setCell (p := ⟨w.heap.size, 13, none⟩) (by simp) (.int .u8 (n8 (N >>> 16).toUInt8))).setCell (p := ⟨w.heap.size, 14, none⟩) (by simp) (.int .u8 (n8 (N >>> 8).toUInt8))).setCell (p := ⟨w.heap.size, 15, none⟩) (by simp) (.int .u8 (n8 N.toUInt8))
        obtain ⟨l, Hl⟩ : ∃ l, Hd (Aes.setBE at_ N = l) := ⟨_, ⟨rfl⟩⟩
        rw [show (((at_.set 12 (N >>> 24).toUInt8).set 13 (N >>> 16).toUInt8).set 14 (N >>> 8).toUInt8).set 15 N.toUInt8 = l from Hl.out] at a4
        have Hll := hd (show l.length = 16 by rw [← Hl.out, Aes.setBE_len, Hal.out])
        have hinc : Aes.incN (k / 16) ctr = l := by
          rw [Aes.incN_setBE ctr Hc.out, HN0.out, ← Hat.out, show k / 16 = (k + 15) / 16 by have := Hk0.out; omega, HN.out, Hl.out]
        have Hinc := hd hinc
        clear hinc
        obtain ⟨z, Hz⟩ : ∃ z, Hd (Aes.enc rs l = z) := ⟨_, ⟨rfl⟩⟩
        have Hzl := hd (show z.length = 16 by rw [← Hz.out, Aes.enc_len _ _ Hll.out])
        go_wp2_with (first | (refine wpl_load_arr rfl 104 _ rfl _ rfl 16 ty16 l Hll.out a4.cells_arr ?_) | (go_at_call 69; refine (ref_encrypt_any g rs l Hll.out Hrs.out.1 Hrs.out.2 _ (hk.below hB4)).mono ?_; rintro e w5 ⟨rfl, hB5⟩; rw [Hz.out]) | ((refine wpl_store_arr rfl 104 _ _ rfl (w.heap.size + 1) z rfl rfl 104 _ (x4.below hB5 x4.lt) 16 ty16.size Hzl.out (by rw [arr_size, Hxl.out]) ?_); refine wpl_name (fun wo => Blk wo w.heap.size 104 (arr l) ∧ Blk wo (w.heap.size + 1) 104 (arr z) ∧ OwnB wo w.heap.size u8 (S.take k) ∧ Below w.heap.size w wo) ⟨(a4.below hB5 a4.lt).farRow (by omega) _, (x4.below hB5 x4.lt).setRow _, (o4.later hB5).moved (grew_setRow (World.grownBy.refl w5 (some (w.heap.size + 1))) _) (own_blk_ne (o4.later hB5).own (x4.below hB5 x4.lt) (by decide)), below_setRow (hB4.trans (hB5.mono hB4.size)) (by omega) _⟩ ?_; rintro wo ⟨ab, xb, own, hB⟩))
        have hcu : wo.cell? (ad.add k) = some (.int .u8 (n8 (nth b k))) := (hB.cell (by rw [block_of_add]; exact had)).trans hcw
        clear a4 x4 o4 hB4 hB5 f12 f13 f14 f15 k12 k13 k14 k15 hne
        have c1 := xb.arr_cell 0 (by rw [Hzl.out]; omega)
        obtain ⟨y, Hy⟩ : ∃ y, Hd (nth b k ^^^ nth z 0 = y) := ⟨_, ⟨rfl⟩⟩
        have Hyy := hd (show S.take (k + 1) = S.take k ++ [y] by
          rw [← HS.out, take_next _ _ (by rw [Aes.stream_len, Hbl.out]; exact hlt), Aes.stream_get _ _ _ _ (by rw [Hbl.out]; exact hlt), ← Hy.out, show Aes.enc rs (Aes.incN (k / 16) ctr) = z by rw [Hinc.out, Hz.out], show k % 16 = 0 from Hk0.out])
        have hcl : (S.take k).length + [y].length ≤ 140737488355328 := by rw [List.length_take]; simp; omega
        have own1 := (own.alloc (.cells #[.int .u8 (n8 y)] 5)).drew
        have hr1 := (ReadsB.one wo y).drew
        rw [← Hy.out] at own1 hr1
        have hB1 : w.heap.size ≤ (wo.alloc (.cells #[.int .u8 (n8 (nth b k ^^^ nth z 0))] 5)).drew.heap.size := by have := hB.size; simp; omega
        go_wp2_with fail
        go_region_law (first | (refine step_appendB (by rfl) _ _ (by rfl) w.heap.size u8 (S.take k) (by rfl) own1 (wo.heap.size + 1) _ 1 1 [nth b k ^^^ nth z 0] (by rfl) hr1 (by rw [Hy.out]; exact hcl) hB1 ?_; intro v2 w2 own2 gr2 at2))
        all_goals
          clear hr1 hB1 own1 hcl c1
          go_wp2
          go_roundw
          case rel =>
            rw [Hy.out] at own2 gr2
            have hBa := (hB.alloc hB.size (.cells #[.int .u8 (n8 y)] 5)).drew
            exact ⟨k + 1, by omega, by go_num, by rw [← HN2.out], by rw [Hyy.out]; exact own2, ⟨l, Hll.out, fun X => by rw [← Hl.out, Aes.setBE_setBE _ Hal.out, Hat.out], (ab.alloc _).drew.appended (own.alloc _).drew gr2 (by decide)⟩, ⟨z, Hzl.out, fun _ => by rw [show (k + 1) / 16 = k / 16 by have := Hk0.out; omega, Hinc.out, Hz.out], (xb.alloc _).drew.appended (own.alloc _).drew gr2 (by decide)⟩, below_appended hBa (own.alloc _).drew gr2 (Nat.le_refl _) (by have := hBa.size; omega)⟩
          case measure => simp [intOf]; omega
      · obtain ⟨km, Hkm⟩ : ∃ m, Hd (k % 16 = m) := ⟨_, ⟨rfl⟩⟩
        have hk1 : ¬ km = 0 := by rw [← Hkm.out]; exact hk0
        have hk2 : km < 16 := by rw [← Hkm.out]; omega
        have hk3 : (km : Int) < 16 := by omega
        have hk4 : ¬ (km : Int) = 0 := by omega
        have Hk0 := hd hk0
        clear hk0
        have vm : (k : Int).tmod 16 = (km : Int) := by rw [← Hkm.out, Int.tmod_eq_emod_of_nonneg (by omega)]; omega
        have vw : IntKind.i64.wrap (km : Int) = (km : Int) := IntWalk.i64_in _ (by omega)
        have hcu : wr.cell? (ad.add k) = some (.int .u8 (n8 (nth b k))) := (hB.cell (by rw [block_of_add]; exact had)).trans hcw
        have c1 := xb.arr_cell km (by rw [Hxl.out]; omega)
        obtain ⟨y, Hy⟩ : ∃ y, Hd (nth b k ^^^ nth x km = y) := ⟨_, ⟨rfl⟩⟩
        have Hyy := hd (show S.take (k + 1) = S.take k ++ [y] by
          rw [← HS.out, take_next _ _ (by rw [Aes.stream_len, Hbl.out]; exact hlt), Aes.stream_get _ _ _ _ (by rw [Hbl.out]; exact hlt), ← Hy.out, show Aes.enc rs (Aes.incN (k / 16) ctr) = x from Hxx.out Hk0.out, Hkm.out])
        have hcl : (S.take k).length + [y].length ≤ 140737488355328 := by rw [List.length_take]; simp; omega
        have own1 := (own.alloc (.cells #[.int .u8 (n8 y)] 5)).drew
        have hr1 := (ReadsB.one wr y).drew
        rw [← Hy.out] at own1 hr1
        have hB1 : w.heap.size ≤ (wr.alloc (.cells #[.int .u8 (n8 (nth b k ^^^ nth x km))] 5)).drew.heap.size := by have := hB.size; simp; omega
        go_wp2_with fail
        go_region_law (first | (refine step_appendB (by rfl) _ _ (by rfl) w.heap.size u8 (S.take k) (by rfl) own1 (wr.heap.size + 1) _ 1 1 [nth b k ^^^ nth x km] (by rfl) hr1 (by rw [Hy.out]; exact hcl) hB1 ?_; intro v2 w2 own2 gr2 at2))
        all_goals
          clear hr1 hB1 own1 hcl c1
          go_wp2
          go_roundw
          case rel =>
            rw [Hy.out] at own2 gr2
            have hBa := (hB.alloc hB.size (.cells #[.int .u8 (n8 y)] 5)).drew
            exact ⟨k + 1, by omega, by go_num, by rw [show (k + 1 + 15) / 16 = (k + 15) / 16 by have := Hk0.out; omega], by rw [Hyy.out]; exact own2, ⟨at_, Hal.out, Hat.out, (ab.alloc _).drew.appended (own.alloc _).drew gr2 (by decide)⟩, ⟨x, Hxl.out, fun _ => by rw [show (k + 1) / 16 = k / 16 by have := Hkm.out; have := Hk0.out; omega]; exact Hxx.out Hk0.out, (xb.alloc _).drew.appended (own.alloc _).drew gr2 (by decide)⟩, below_appended hBa (own.alloc _).drew gr2 (Nat.le_refl _) (by have := hBa.size; omega)⟩
          case measure => simp [intOf]; omega
    · have ek : k = n := by omega
      subst ek
      have tk : ¬ (k : Int) < (k : Int) := by omega
      go_wp2
      go_ret
      exact ⟨_, rfl, by rw [← HSl.out, List.take_length] at own; exact own, hB⟩
end Go.Proofs.Ytbcboldepghgpaa
