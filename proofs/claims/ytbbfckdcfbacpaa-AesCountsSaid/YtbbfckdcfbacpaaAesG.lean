/-
  The walk of the statement AesCounts.
-/
import Derived.Test.YtbbfckdcfbacpaaAesF
import Derived.Test.YtbbfckdcfbacpaaStreamA
import Derived.Test.YtbbfckdcfbacpaaStreamLaw
import Derived.Test.YtbbfckdcfbacpaaStr
import Derived.BigQuiet
set_option linter.unusedVariables false
set_option linter.unusedSimpArgs false
namespace Go.Proofs.Ytbbfckdcfbacpaa
open Go.RowKit
theorem wrap_u32_nat (k : Nat) : IntKind.u32.wrap (k : Int) = ((n32 (UInt32.ofNat k) : Nat) : Int) := by
  rw [wrap_n32, BitVec.ofInt_natCast]; rfl
set_option maxHeartbeats 2000000 in
set_option maxRecDepth 100000 in
theorem counts_refused (A : Option Addr) (n c : Nat) (ctr : List UInt8) (D : Option Addr) (m d : Nat) (cut : UInt8) (w : World) (h16 : n ≠ 16) (h32 : n ≠ 32) :
    Calls Try.prog 6 #[.slice A n c, .agg (arr ctr), .slice D m d, .int .u8 (n8 cut)] w fun e w' => e = .returned (.bool true) ∧ Below w.heap.size w w' := by
  have t3 : ((n : Int) != 16) = true := by rw [bne_iff_ne]; omega
  have t4 : ((n : Int) != 32) = true := by rw [bne_iff_ne]; omega
  have hnil : ∀ W, (binOp .eql 25 (.pointer none) (.pointer none)).run Try.prog W = .ok (.bool true) W := fun W => by kernel_rfl
  have hB0 := (Below.refl w.heap.size w).alloc (Nat.le_refl _) (.cells (arr ctr) 32)
  go_enter Try.func6, Try.ntmps6
  go_wp2_with (first | (go_at_call 12; refine (head_any _).mono ?_; rintro e w1 ⟨rfl, hB1⟩) | (go_at_call 13; refine (new_refused _ _ _ _ h16 h32).mono ?_; rintro e w2 ⟨rfl, rfl⟩))
  go_ret
  exact ⟨rfl, hB0.trans (hB1.mono hB0.size)⟩
theorem OwnB.later {w w' : World} {B : Nat} {v : Value} {l : List UInt8} (h : OwnB w B v l) (hb : Below w.heap.size w w') : OwnB w' B v l := by
  have hg : w.grownBy w' (some w.heap.size) := ⟨hb.os, hb.tape, hb.output, hb.size, fun i hi _ => hb.block i hi⟩
  refine h.moved hg ?_
  rcases h.size with h1 | ⟨g', h1, _, h2⟩
  · rw [h1]; intro e; cases e
  · rw [h1]; intro e; injection e; omega
theorem ReadsB.drew {w : World} {B : Nat} {A : Option Addr} {n : Nat} {l : List UInt8} (h : ReadsB w B A n l) : ReadsB w.drew B A n l := ⟨h.len, h.is.drew⟩
theorem ReadsB.take {w : World} {B : Nat} {A : Option Addr} {n k : Nat} {l : List UInt8} (h : ReadsB w B A n l) (hk : k ≤ n) : ReadsB w B A k (l.take k) := by
  refine ⟨by rw [List.length_take, h.len]; omega, ?_⟩
  have := h.is.head hk
  rwa [Nat.mul_one, ← List.map_take] at this
theorem ReadsB.drop {w : World} {B : Nat} {A : Option Addr} {n k c : Nat} {l : List UInt8} (h : ReadsB w B A n l) (hk : k ≤ n) (hc : n ≤ c) : ReadsB w B (if c = k then A else A.map (·.add k)) (n - k) (l.drop k) := by
  refine ⟨by rw [List.length_drop, h.len], ?_⟩
  have := h.is.cut hk hc
  rwa [Nat.mul_one, ← List.map_drop] at this
def bePart (X : UInt32) : Nat → List UInt8 → List UInt8
  | 0, l => l
  | 1, l => l.set 12 (X >>> 24).toUInt8
  | 2, l => (l.set 12 (X >>> 24).toUInt8).set 13 (X >>> 16).toUInt8
  | 3, l => ((l.set 12 (X >>> 24).toUInt8).set 13 (X >>> 16).toUInt8).set 14 (X >>> 8).toUInt8
  | _, l => Aes.setBE l X
set_option maxHeartbeats 4000000 in
set_option maxRecDepth 100000 in
theorem counts_made (A : Option Addr) (n c : Nat) (key ctr : List UInt8) (hc : ctr.length = 16) (D : Option Addr) (m d : Nat) (b : List UInt8) (cut : UInt8) (w : World) (hr : ReadsB w w.heap.size A n key) (hn : n = 16 ∨ n = 32) (hb : ReadsB w w.heap.size D m b) (hmd : m ≤ d) (hm : m ≤ 140737488351232) :
    Calls Try.prog 6 #[.slice A n c, .agg (arr ctr), .slice D m d, .int .u8 (n8 cut)] w fun e w' => e = .returned (.bool true) ∧ Below w.heap.size w w' := by
  have Hn := hd hn
  have Hc := hd hc
  have Hk := hd (show key.length = 16 ∨ key.length = 32 by rw [hr.len]; exact hn)
  have Hbl := hd hb.len
  clear hn hc
  have hB0 := (Below.refl w.heap.size w).alloc (Nat.le_refl _) (.cells (arr ctr) 32)
  go_enter Try.func6, Try.ntmps6
  go_wp2_with fail
  refine (head_any _).mono ?_
  rintro e w1 ⟨rfl, hB1⟩
  have a1 : Blk w1 w.heap.size 32 (arr ctr) := (Blk.nu rfl).below hB1 (by simp)
  have hB1' := hB0.trans (hB1.mono hB0.size)
  have hr1 : ReadsB w1 w1.heap.size A n key := ⟨hr.len, (hr.is.below hB1').more hB1'.size⟩
  clear hB1 hB0 hr
  go_wp2_with fail
  refine (new_made _ _ _ _ _ hr1 Hn.out).mono ?_
  rintro e w2 ⟨g, rfl, hkey, hB2⟩
  have a2 := a1.below hB2 a1.lt
  have hB2' := hB1'.trans (hB2.mono hB1'.size)
  obtain ⟨hrs1, hrs2⟩ := keys_some key Hk.out
  obtain ⟨rs, Hrk⟩ : ∃ rs, Hd (Aes.keys key = rs) := ⟨_, ⟨rfl⟩⟩
  rw [Hrk.out] at hkey hrs1 hrs2
  have hnil : ∀ W, (binOp .eql 25 (.pointer (some ⟨g, 0, none⟩)) (.pointer none)).run Try.prog W = .ok (.bool false) W := fun W => by kernel_rfl
  have hb2 : ReadsB w2 w2.heap.size D m b := ⟨hb.len, (hb.is.below hB2').more hB2'.size⟩
  have Hrs := hd (And.intro hrs1 hrs2)
  clear a1 hB1' hB2 hr1 hrs1 hrs2
  go_wp2_with (refine wpl_load_arr rfl 32 _ rfl _ rfl 16 ty16 ctr Hc.out a2.cells_arr ?_)
  refine (stream_any g rs Hrs.out.1 Hrs.out.2 ctr Hc.out D m d b _ hkey hb2 (by omega)).mono ?_
  rintro e w3 ⟨v3, rfl, own3, hB3⟩
  obtain ⟨S, HS⟩ : ∃ s, Hd (Aes.stream rs ctr b = s) := ⟨_, ⟨rfl⟩⟩
  rw [HS.out] at own3
  have Hsl := hd (show S.length = m by rw [← HS.out, Aes.stream_len, Hbl.out])
  obtain ⟨A3, cp3, e3⟩ := own3.slice
  rw [Hsl.out] at e3
  subst e3
  have a3 := a2.below hB3 a2.lt
  have hB3' := hB2'.trans (hB3.mono hB2'.size)
  have hkey3 := hkey.below hB3
  have hb3 : ReadsB w3 w3.heap.size D m b := ⟨hb.len, (hb.is.below hB3').more hB3'.size⟩
  have hcl := n8_lt cut
  obtain ⟨M, hM⟩ : ∃ M : Nat, M = n8 cut % (m / 16 + 1) := ⟨_, rfl⟩
  have hMi : ((n8 cut : Nat) : Int) % ((m : Int) / 16 + 1) = (M : Int) := by rw [hM]; push_cast; rfl
  have hMm : 16 * M ≤ m := by
    have := Nat.mod_lt (n8 cut) (show 0 < m / 16 + 1 by omega)
    rw [hM]; omega
  have HM := hd hM
  clear hM
  have hne3 : (Value.slice A3 m cp3).ownBlock ≠ some w3.heap.size := by
    rcases own3.size with h | ⟨g', h, _, h'⟩
    · rw [h]; intro e; cases e
    · rw [h]; intro e; injection e; omega
  have bel3 := below_setRow ((Below.refl w3.heap.size w3).alloc (Nat.le_refl _) (.cells (arr (List.replicate 16 0)) 32)) (Nat.le_refl w3.heap.size) (arr ctr)
  have eM := wrap_u32_nat M
  obtain ⟨NM, HNM⟩ : ∃ x, Hd (UInt32.ofNat M = x) := ⟨_, ⟨rfl⟩⟩
  rw [HNM.out] at eM
  go_wp2_with (first | (refine wpl_load_arr rfl 32 _ rfl _ rfl 16 ty16 ctr Hc.out a3.cells_arr ?_) | (refine wpl_alloc rfl 32 rfl _ zero16 ?_) | ((refine wpl_store_arr rfl 32 _ _ rfl w3.heap.size ctr rfl rfl 32 _ (Blk.nu rfl) 16 ty16.size Hc.out (by rw [arr_size]; rfl) ?_); refine wpl_name (fun wo => w3.grownBy wo (some w3.heap.size) ∧ Blk wo w3.heap.size 32 (arr ctr) ∧ Blk wo w.heap.size 32 (arr ctr)) ⟨grew_setRow (grew_alloc (World.grownBy.refl w3 (some w3.heap.size)) _) _, (Blk.nu rfl).setRow _, (a3.alloc _).farRow (by have := a3.lt; omega) _⟩ ?_; rintro wo ⟨hg0, c1, c0⟩; have k12 := c0.arr_cell 12 (by rw [Hc.out]; omega); have k13 := c0.arr_cell 13 (by rw [Hc.out]; omega); have k14 := c0.arr_cell 14 (by rw [Hc.out]; omega); have k15 := c0.arr_cell 15 (by rw [Hc.out]; omega)))
  clear k12 k13 k14 k15
  obtain ⟨X, HX⟩ : ∃ x, Hd (((nth ctr 12).toUInt32 <<< 24 ||| (nth ctr 13).toUInt32 <<< 16 ||| (nth ctr 14).toUInt32 <<< 8 ||| (nth ctr 15).toUInt32) + NM = x) := ⟨_, ⟨rfl⟩⟩
  rw [HX.out]
  obtain ⟨z, Hz⟩ : ∃ z, Hd (w3.heap.size = z) := ⟨_, ⟨rfl⟩⟩
  rw [Hz.out] at c1 hg0 ⊢
  clear bel3 hne3 c0 hMi eM
  go_loopw [16] (fun i wr => ∃ k : Nat, k ≤ 4 ∧ i = .int .i64 (k : Int) ∧ Blk wr z 32 (arr (bePart X k ctr)) ∧ w3.grownBy wr (some z)) (fun i _ => 4 - (intOf i).toNat)
  case atStart => exact ⟨0, by omega, rfl, c1, hg0⟩
  case round =>
    clear c1 hg0
    obtain ⟨k, hk4, rfl, c1, hg0⟩ := hrel
    by_cases hk : k < 4
    · have hl0 := hd (show (bePart X k ctr).length = 16 by rcases k with _ | _ | _ | _ | k <;> simp [bePart, Hc.out, Aes.setBE_len])
      have h4 : k = 0 ∨ k = 1 ∨ k = 2 ∨ k = 3 := by omega
      rcases h4 with rfl | rfl | rfl | rfl
      · have f0 := c1.frozen 12
        have k0 := c1.arr_cell 12 (by rw [hl0.out]; omega)
        go_wp2
        go_roundw
        case rel => exact ⟨1, by omega, rfl, c1.arr_set _ _, grew_setCell hg0 _ _⟩
        case measure => simp [intOf]
      · have f0 := c1.frozen 13
        have k0 := c1.arr_cell 13 (by rw [hl0.out]; omega)
        go_wp2
        go_roundw
        case rel => exact ⟨2, by omega, rfl, c1.arr_set _ _, grew_setCell hg0 _ _⟩
        case measure => simp [intOf]
      · have f0 := c1.frozen 14
        have k0 := c1.arr_cell 14 (by rw [hl0.out]; omega)
        go_wp2
        go_roundw
        case rel => exact ⟨3, by omega, rfl, c1.arr_set _ _, grew_setCell hg0 _ _⟩
        case measure => simp [intOf]
      · have f0 := c1.frozen 15
        have k0 := c1.arr_cell 15 (by rw [hl0.out]; omega)
        go_wp2
        go_roundw
        case rel => exact ⟨4, by omega, rfl, c1.arr_set _ _, grew_setCell hg0 _ _⟩
        case measure => simp [intOf]
    · have ek : k = 4 := by omega
      subst ek
      have tk : ¬ ((4 : Nat) : Int) < 4 := by omega
      obtain ⟨l2, Hl2⟩ : ∃ l, Hd (Aes.setBE ctr X = l) := ⟨_, ⟨rfl⟩⟩
      rw [show bePart X 4 ctr = l2 from Hl2.out] at c1
      have Hl2l := hd (show l2.length = 16 by rw [← Hl2.out, Aes.setBE_len, Hc.out])
      have bel : Below z w3 wr := (Below.refl z w3).grown hg0 (by rw [← Hz.out]; omega) (fun k hk => by injection hk; omega)
      rw [← Hz.out] at bel
      have own4 := own3.moved hg0 (by
        rcases own3.size with h | ⟨g', h, _, h'⟩
        · rw [h]; intro e; cases e
        · rw [h, ← Hz.out]; intro e; injection e; omega)
      have hkey4 := hkey3.below bel
      have hb4 : ReadsB wr wr.heap.size D m b := ⟨hb3.len, (hb3.is.below bel).more (by have := c1.lt; rw [Hz.out]; omega)⟩
      have hB4 := hB3'.trans (bel.mono hB3'.size)
      have a4 := a3.below bel a3.lt
      clear hg0 bel
      have v0 : IntKind.i64.wrap (16 * (M : Int)) = 16 * (M : Int) := IntWalk.i64_in _ (by omega)
      have v1 : (16 * (M : Int)).toNat = 16 * M := by omega
      have v2 : 0 ≤ 16 * (M : Int) := by omega
      have v3' : 16 * (M : Int) ≤ (d : Int) := by omega
      have v4 : 16 * (M : Int) ≤ (m : Int) := by omega
      go_wp2
      go_still_tail 6, (by kernel_rfl)
      repeat still_step
      refine still_load_arr rfl 32 _ rfl _ rfl 16 ty16 ctr Hc.out a4.drew.cells_arr ?_
      repeat still_step
      refine wpStill_nil ?_
      change wpList _ _ _ _ _ wr.drew
      go_wp2_with fail
      refine (stream_any g rs Hrs.out.1 Hrs.out.2 ctr Hc.out D (16 * M) d (b.take (16 * M)) _ (hkey4.below (Below.refl _ _).drew) (hb4.take hMm).drew (by omega)).mono ?_
      rintro e w5 ⟨v5, rfl, own5, hB5⟩
      change Below wr.heap.size wr.drew w5 at hB5
      replace hB5 : Below wr.heap.size wr w5 := (Below.refl _ _).drew.trans hB5
      have own45 := own4.later hB5
      have hkey5 := hkey4.below hB5
      have hb5 : ReadsB w5 w5.heap.size D m b := ⟨hb4.len, (hb4.is.below hB5).more hB5.size⟩
      have a5 := a4.below hB5 a4.lt
      have c5 := c1.below hB5 c1.lt
      have hB5' := hB4.trans (hB5.mono hB4.size)
      clear own4 hkey4 hb4 a4 c1 hB4 hB5
      have dr := hb5.drop hMm hmd
      have Hd16 := hd hMm
      by_cases hd16 : d = 16 * M
      · rw [if_pos hd16] at dr
        go_wp2
        go_still_tail 6, (by kernel_rfl)
        repeat still_step
        refine still_load_arr rfl 32 _ rfl _ rfl 16 ty16 l2 Hl2l.out c5.drew.cells_arr ?_
        repeat still_step
        refine wpStill_nil ?_
        change wpList _ _ _ _ _ w5.drew
        go_wp2_with fail
        refine (stream_any g rs Hrs.out.1 Hrs.out.2 l2 Hl2l.out D (m - 16 * M) 0 (b.drop (16 * M)) _ (hkey5.below (Below.refl _ _).drew) dr.drew (by omega)).mono ?_
        rintro e w6 ⟨v6, rfl, own6, hB6⟩
        change Below w5.heap.size w5.drew w6 at hB6
        replace hB6 : Below w5.heap.size w5 w6 := (Below.refl _ _).drew.trans hB6
        have own46 := own45.later hB6
        have own56 := own5.later hB6
        have hkey6 := hkey5.below hB6
        have hb6 : ReadsB w6 w6.heap.size D m b := ⟨hb5.len, (hb5.is.below hB6).more hB6.size⟩
        have a6 := a5.below hB6 a5.lt
        have hB6' := hB5'.trans (hB6.mono hB5'.size)
        clear own45 own5 hkey5 hb5 a5 hB5' hB6 c5 dr v0 v1 v2 v3' v4
        obtain ⟨x, Hx⟩ : ∃ x, Hd (Aes.enc rs ctr = x) := ⟨_, ⟨rfl⟩⟩
        have Hxl := hd (show x.length = 16 by rw [← Hx.out, Aes.enc_len _ _ Hc.out])
        go_wp2_with (first | (refine wpl_load_arr rfl 32 _ rfl _ rfl 16 ty16 ctr Hc.out a6.cells_arr ?_) | (refine wpl_alloc rfl 32 rfl _ zero16 ?_) | (go_at_call 15; refine (encrypt_any g rs ctr Hc.out Hrs.out.1 Hrs.out.2 _ hkey6).mono ?_; rintro e w7 ⟨rfl, hB7⟩; rw [Hx.out]) | ((refine wpl_store_arr rfl 32 _ _ rfl _ x rfl rfl 32 _ (Blk.nu rfl) 16 ty16.size Hxl.out (by rw [arr_size]; rfl) ?_); refine wpl_name (fun wo => Below w6.heap.size w6 wo ∧ Blk wo w7.heap.size 32 (arr x)) ⟨below_setRow (hB7.alloc hB7.size _) hB7.size _, (Blk.nu rfl).setRow _⟩ ?_; rintro w8 ⟨hB8, x8⟩))
        have own48 := own46.later hB8
        have own58 := own56.later hB8
        have own68 := own6.later hB8
        have hb8 : ReadsB w8 w8.heap.size D m b := ⟨hb6.len, (hb6.is.below hB8).more hB8.size⟩
        have hB8' := hB6'.trans (hB8.mono hB6'.size)
        clear own46 own56 own6 hkey6 hb6 a6 hB6' hB8
        have r4 := own48.drew.reads_any.2
        obtain ⟨A5, cp5, e5⟩ := own58.slice
        obtain ⟨A6, cp6, e6⟩ := own68.slice
        rw [Aes.stream_len, List.length_take, Hbl.out, show min (16 * M) m = 16 * M by omega] at e5
        rw [Aes.stream_len, List.length_drop, Hbl.out] at e6
        subst e5 e6
        have r5 := own58.drew.reads_any.2
        have r6 := own68.drew.reads_any.2
        have Hs4 := hd (run_toString (P := Try.prog) Try.underlying22 Try.underlying5 Try.underlying9 _ A3 m cp3 S r4)
        have Hs5 := hd (run_toString (P := Try.prog) Try.underlying22 Try.underlying5 Try.underlying9 _ A5 _ cp5 _ r5)
        have Hs6 := hd (run_toString (P := Try.prog) Try.underlying22 Try.underlying5 Try.underlying9 _ A6 _ cp6 _ r6)
        have hsz : ¬ 9223372036854775807 < (str (Aes.stream rs ctr (b.take (16 * M)))).size + (str (Aes.stream rs l2 (b.drop (16 * M)))).size := by
          rw [str_size, str_size, Aes.stream_len, Aes.stream_len, List.length_take, List.length_drop, Hbl.out]; omega
        have heq : ((str S).toList = (str (Aes.stream rs ctr (b.take (16 * M))) ++ str (Aes.stream rs l2 (b.drop (16 * M)))).toList) = True := by
          rw [str_append, ← HS.out, Aes.stream_split rs ctr b M (by rw [Hbl.out]; exact Hd16.out), Aes.incN_setBE ctr Hc.out, ← Hl2.out, ← HX.out, ← HNM.out]
          exact eq_self _
        have Hbq := hd (show ((str S).toList == (str (Aes.stream rs ctr (b.take (16 * M))) ++ str (Aes.stream rs l2 (b.drop (16 * M)))).toList) = true from beq_iff_eq.2 (of_eq_true heq))
        by_cases hm0 : m = 0
        · have te : (m = 0) = True := by rw [hm0]; exact eq_self _
          have Hm0 := hd hm0
          clear hm0
          go_still_tail 15, (by kernel_rfl)
          change wpList _ _ _ _ _ w8.drew
          go_wp2_with (first | rw [Hs4.out] | rw [Hs5.out] | rw [Hs6.out])
          go_ret
          exact ⟨congrArg (fun x => Ending.returned (.bool x)) Hbq.out, hB8'.drew⟩
        · have t0 : (0 : Int) < (m : Int) := by omega
          have t1 : 0 < m := by omega
          obtain ⟨G3, cq3, e3, _, _, _⟩ := own48.form (by rw [Hsl.out]; omega)
          rw [Hsl.out] at e3
          have e31 : A3 = some ⟨G3, 0, none⟩ := by injection e3
          clear e3
          subst e31
          have own48' : OwnB w8 w2.heap.size (.slice (some ⟨G3, 0, none⟩) S.length cp3) S := by rw [Hsl.out]; exact own48
          have k0 := own48'.drew.cell 0 (by rw [Hsl.out]; omega)
          obtain ⟨ad, u, hD, had, hu, hcu⟩ := hb8.is.at_ (k := 0) (by omega)
          rw [Addr.add_zero'] at hcu
          subst hD
          have k2 := x8.drew.arr_cell 0 (by rw [Hxl.out]; omega)
          have hu' : u = .int .u8 (n8 (nth b 0)) := by
            have h1 : (b.map U8)[0]? = some (.int .u8 (n8 (nth b 0))) := by
              have := arr_get b 0 (by rw [Hbl.out]; omega)
              simpa [arr] using this
            rw [h1] at hu; injection hu with hu; exact hu.symm
          subst hu'
          clear hu own48'
          go_still_tail 15, (by kernel_rfl)
          change wpList _ _ _ _ _ w8.drew
          go_wp2_with (first | rw [Hs4.out] | rw [Hs5.out] | rw [Hs6.out])
          have hq : (nth S 0 == nth b 0 ^^^ nth x 0) = true := by
            rw [← HS.out, Aes.stream_get _ _ _ _ (by rw [Hbl.out]; omega), ← Hx.out]
            exact beq_iff_eq.2 rfl
          go_ret
          exact ⟨congrArg (fun x => Ending.returned (.bool x)) (by rw [Hbq.out, hq, Bool.or_true]; rfl), hB8'.drew⟩
      · rw [if_neg hd16] at dr
        go_wp2
        go_still_tail 6, (by kernel_rfl)
        repeat still_step
        refine still_load_arr rfl 32 _ rfl _ rfl 16 ty16 l2 Hl2l.out c5.drew.cells_arr ?_
        repeat still_step
        refine wpStill_nil ?_
        change wpList _ _ _ _ _ w5.drew
        go_wp2_with fail
        refine (stream_any g rs Hrs.out.1 Hrs.out.2 l2 Hl2l.out (D.map (·.add (16 * M))) (m - 16 * M) (d - 16 * M) (b.drop (16 * M)) _ (hkey5.below (Below.refl _ _).drew) dr.drew (by omega)).mono ?_
        rintro e w6 ⟨v6, rfl, own6, hB6⟩
        change Below w5.heap.size w5.drew w6 at hB6
        replace hB6 : Below w5.heap.size w5 w6 := (Below.refl _ _).drew.trans hB6
        have own46 := own45.later hB6
        have own56 := own5.later hB6
        have hkey6 := hkey5.below hB6
        have hb6 : ReadsB w6 w6.heap.size D m b := ⟨hb5.len, (hb5.is.below hB6).more hB6.size⟩
        have a6 := a5.below hB6 a5.lt
        have hB6' := hB5'.trans (hB6.mono hB5'.size)
        clear own45 own5 hkey5 hb5 a5 hB5' hB6 c5 dr v0 v1 v2 v3' v4
        obtain ⟨x, Hx⟩ : ∃ x, Hd (Aes.enc rs ctr = x) := ⟨_, ⟨rfl⟩⟩
        have Hxl := hd (show x.length = 16 by rw [← Hx.out, Aes.enc_len _ _ Hc.out])
        go_wp2_with (first | (refine wpl_load_arr rfl 32 _ rfl _ rfl 16 ty16 ctr Hc.out a6.cells_arr ?_) | (refine wpl_alloc rfl 32 rfl _ zero16 ?_) | (go_at_call 15; refine (encrypt_any g rs ctr Hc.out Hrs.out.1 Hrs.out.2 _ hkey6).mono ?_; rintro e w7 ⟨rfl, hB7⟩; rw [Hx.out]) | ((refine wpl_store_arr rfl 32 _ _ rfl _ x rfl rfl 32 _ (Blk.nu rfl) 16 ty16.size Hxl.out (by rw [arr_size]; rfl) ?_); refine wpl_name (fun wo => Below w6.heap.size w6 wo ∧ Blk wo w7.heap.size 32 (arr x)) ⟨below_setRow (hB7.alloc hB7.size _) hB7.size _, (Blk.nu rfl).setRow _⟩ ?_; rintro w8 ⟨hB8, x8⟩))
        have own48 := own46.later hB8
        have own58 := own56.later hB8
        have own68 := own6.later hB8
        have hb8 : ReadsB w8 w8.heap.size D m b := ⟨hb6.len, (hb6.is.below hB8).more hB8.size⟩
        have hB8' := hB6'.trans (hB8.mono hB6'.size)
        clear own46 own56 own6 hkey6 hb6 a6 hB6' hB8
        have r4 := own48.drew.reads_any.2
        obtain ⟨A5, cp5, e5⟩ := own58.slice
        obtain ⟨A6, cp6, e6⟩ := own68.slice
        rw [Aes.stream_len, List.length_take, Hbl.out, show min (16 * M) m = 16 * M by omega] at e5
        rw [Aes.stream_len, List.length_drop, Hbl.out] at e6
        subst e5 e6
        have r5 := own58.drew.reads_any.2
        have r6 := own68.drew.reads_any.2
        have Hs4 := hd (run_toString (P := Try.prog) Try.underlying22 Try.underlying5 Try.underlying9 _ A3 m cp3 S r4)
        have Hs5 := hd (run_toString (P := Try.prog) Try.underlying22 Try.underlying5 Try.underlying9 _ A5 _ cp5 _ r5)
        have Hs6 := hd (run_toString (P := Try.prog) Try.underlying22 Try.underlying5 Try.underlying9 _ A6 _ cp6 _ r6)
        have hsz : ¬ 9223372036854775807 < (str (Aes.stream rs ctr (b.take (16 * M)))).size + (str (Aes.stream rs l2 (b.drop (16 * M)))).size := by
          rw [str_size, str_size, Aes.stream_len, Aes.stream_len, List.length_take, List.length_drop, Hbl.out]; omega
        have heq : ((str S).toList = (str (Aes.stream rs ctr (b.take (16 * M))) ++ str (Aes.stream rs l2 (b.drop (16 * M)))).toList) = True := by
          rw [str_append, ← HS.out, Aes.stream_split rs ctr b M (by rw [Hbl.out]; exact Hd16.out), Aes.incN_setBE ctr Hc.out, ← Hl2.out, ← HX.out, ← HNM.out]
          exact eq_self _
        have Hbq := hd (show ((str S).toList == (str (Aes.stream rs ctr (b.take (16 * M))) ++ str (Aes.stream rs l2 (b.drop (16 * M)))).toList) = true from beq_iff_eq.2 (of_eq_true heq))
        by_cases hm0 : m = 0
        · have te : (m = 0) = True := by rw [hm0]; exact eq_self _
          have Hm0 := hd hm0
          clear hm0
          go_still_tail 15, (by kernel_rfl)
          change wpList _ _ _ _ _ w8.drew
          go_wp2_with (first | rw [Hs4.out] | rw [Hs5.out] | rw [Hs6.out])
          go_ret
          exact ⟨congrArg (fun x => Ending.returned (.bool x)) Hbq.out, hB8'.drew⟩
        · have t0 : (0 : Int) < (m : Int) := by omega
          have t1 : 0 < m := by omega
          obtain ⟨G3, cq3, e3, _, _, _⟩ := own48.form (by rw [Hsl.out]; omega)
          rw [Hsl.out] at e3
          have e31 : A3 = some ⟨G3, 0, none⟩ := by injection e3
          clear e3
          subst e31
          have own48' : OwnB w8 w2.heap.size (.slice (some ⟨G3, 0, none⟩) S.length cp3) S := by rw [Hsl.out]; exact own48
          have k0 := own48'.drew.cell 0 (by rw [Hsl.out]; omega)
          obtain ⟨ad, u, hD, had, hu, hcu⟩ := hb8.is.at_ (k := 0) (by omega)
          rw [Addr.add_zero'] at hcu
          subst hD
          have k2 := x8.drew.arr_cell 0 (by rw [Hxl.out]; omega)
          have hu' : u = .int .u8 (n8 (nth b 0)) := by
            have h1 : (b.map U8)[0]? = some (.int .u8 (n8 (nth b 0))) := by
              have := arr_get b 0 (by rw [Hbl.out]; omega)
              simpa [arr] using this
            rw [h1] at hu; injection hu with hu; exact hu.symm
          subst hu'
          clear hu own48'
          go_still_tail 15, (by kernel_rfl)
          change wpList _ _ _ _ _ w8.drew
          go_wp2_with (first | rw [Hs4.out] | rw [Hs5.out] | rw [Hs6.out])
          have hq : (nth S 0 == nth b 0 ^^^ nth x 0) = true := by
            rw [← HS.out, Aes.stream_get _ _ _ _ (by rw [Hbl.out]; omega), ← Hx.out]
            exact beq_iff_eq.2 rfl
          go_ret
          exact ⟨congrArg (fun x => Ending.returned (.bool x)) (by rw [Hbq.out, hq, Bool.or_true]; rfl), hB8'.drew⟩
end Go.Proofs.Ytbbfckdcfbacpaa
