/-
  The walk of chacha's stream.
-/
import Derived.Test.YthigbggacgiamaaDoorChaB
import Derived.Test.YthigbggacgiamaaDoorJa
set_option linter.unusedVariables false
set_option linter.unusedSimpArgs false
set_option maxRecDepth 100000
namespace Go.Proofs.YthigbggacgiamaaDoor
open Go.RowKit
namespace Cha
/-- One byte of a block XORed; a block's; some blocks'; the whole stream. -/
def xorAt (start : Nat) (x : List UInt8) (i : Nat) (out : List UInt8) : List UInt8 := out.set (start + i) (nth out (start + i) ^^^ nth x i)
theorem xorAt_len (start : Nat) (x out : List UInt8) (k : Nat) : (iter (xorAt start x) k out).length = out.length := iter_keeps _ _ (fun k s => by simp [xorAt]) k out
def strStep (key : List UInt8) (count : W) (nonce : List UInt8) (j : Nat) (out : List UInt8) : List UInt8 :=
  iter (xorAt (64 * j) (block key (count + UInt32.ofNat j) nonce)) (min 64 (out.length - 64 * j)) out
def strRun (key : List UInt8) (count : W) (nonce b : List UInt8) (j : Nat) : List UInt8 := iter (strStep key count nonce) j b
theorem strRun_succ (key : List UInt8) (count : W) (nonce b : List UInt8) (j : Nat) : strRun key count nonce b (j + 1) = strStep key count nonce j (strRun key count nonce b j) := rfl
theorem strRun_len (key : List UInt8) (count : W) (nonce b : List UInt8) (j : Nat) : (strRun key count nonce b j).length = b.length := iter_keeps _ _ (fun k s => xorAt_len _ _ _ _) j b
def stream (key : List UInt8) (count : W) (nonce b : List UInt8) : List UInt8 := strRun key count nonce b ((b.length + 63) / 64)
theorem stream_len (key : List UInt8) (count : W) (nonce b : List UInt8) : (stream key count nonce b).length = b.length := strRun_len _ _ _ _ _
theorem ownBlock_sl (G n c : Nat) : (Value.slice (some ⟨G, 0, none⟩) n c).ownBlock = some G := rfl
theorem ty32 : AggT Tryd.prog 23 32 := ⟨by kernel_rfl, by kernel_rfl⟩
theorem ty12 : AggT Tryd.prog 27 12 := ⟨by kernel_rfl, by kernel_rfl⟩
attribute [irreducible] stream strRun
end Cha
set_option maxHeartbeats 4000000 in
set_option maxRecDepth 100000 in
theorem Cha.stream_any (key nonce : List UInt8) (count : UInt32) (hk : key.length = 32) (hnn : nonce.length = 12) (A : Option Addr) (n c : Nat) (b : List UInt8) (w : World) (hr : ReadsB w w.heap.size A n b) (hn : n ≤ 140737488355328) :
    Calls Tryd.prog 52 #[.agg (arr key), .int .u32 ((n32 count : Nat) : Int), .agg (arr nonce), .slice A n c] w fun e w' => ∃ v, e = .returned v ∧ OwnB w' w.heap.size v (Cha.stream key count nonce b) ∧ Below w.heap.size w w' := by
  have HK := hd hk
  have HN := hd hnn
  have Hbl := hd hr.len
  clear hk hnn
  have hB0 := ((Below.refl w.heap.size w).alloc (Nat.le_refl _) (.cells (arr key) 23)).alloc (by simp) (.cells (arr nonce) 27)
  have k0 : Blk ((w.alloc (.cells (arr key) 23)).alloc (.cells (arr nonce) 27)) w.heap.size 23 (arr key) := (Blk.nu rfl).alloc _
  have n0 : Blk ((w.alloc (.cells (arr key) 23)).alloc (.cells (arr nonce) 27)) (w.heap.size + 1) 27 (arr nonce) := Blk.nu (by simp)
  have hr0 : ReadsB ((w.alloc (.cells (arr key) 23)).alloc (.cells (arr nonce) 27)) w.heap.size A n b := ⟨hr.len, (hr.is.alloc (Nat.le_refl _) _).alloc (by simp) _⟩
  have hc2 : ([] : List UInt8).length + b.length ≤ 140737488355328 := by rw [Hbl.out]; simpa using hn
  go_enter Tryd.func52, Tryd.ntmps52
  go_wp2_with (at_builtin; refine wpl_appendB rfl _ _ rfl w.heap.size (.slice none 0 0) [] rfl (OwnB.nil _ _) w.heap.size A n c b rfl hr0 hc2 hB0.size ?_; intro v2 w2 own2 gr2 at2)
  have k2 := k0.appended (OwnB.nil _ w.heap.size) gr2 (by decide)
  have n2 := n0.appended (OwnB.nil _ w.heap.size) gr2 (by decide)
  have hB2 := below_appended hB0 (OwnB.nil _ w.heap.size) gr2 (Nat.le_refl _) hB0.size
  have hlen : ∃ A' c', v2 = .slice A' n c' := by
    rcases own2.own.2 with ⟨h, h0⟩ | ⟨g', cap, cur, h, _⟩
    · refine ⟨none, 0, ?_⟩
      have : n = 0 := by rw [← Hbl.out]; simpa using h0
      rw [h, this]
    · exact ⟨some ⟨g', 0, none⟩, cap, by rw [h]; simp [Hbl.out]⟩
  obtain ⟨A', c', rfl⟩ := hlen
  rw [List.nil_append] at own2
  clear gr2 at2 hr hr0 k0 n0 hB0
  go_wp2_with fail
  go_loopw [1, 10] (fun q i wr => ∃ j : Nat, 64 * j < n + 64 ∧ q = .int .u32 ((n32 (count + UInt32.ofNat j) : Nat) : Int) ∧ i = .int .i64 (64 * (j : Int)) ∧ OwnB wr w.heap.size (.slice A' n c') (Cha.strRun key count nonce b j) ∧ Blk wr w.heap.size 23 (arr key) ∧ Blk wr (w.heap.size + 1) 27 (arr nonce) ∧ Below w.heap.size w wr) (fun _ i _ => (n : Int) + 64 - intOf i |>.toNat)
  case atStart => exact ⟨0, by omega, by rw [show UInt32.ofNat 0 = 0 from rfl, UInt32.add_zero], rfl, by unfold Cha.strRun; exact own2, k2, n2, hB2⟩
  case round =>
    clear own2 k2 n2 hB2
    obtain ⟨j, hj, rfl, rfl, own, kb, nb, hB⟩ := hrel
    obtain ⟨out, Hs⟩ : ∃ s, Hd (Cha.strRun key count nonce b j = s) := ⟨_, ⟨rfl⟩⟩
    have Hol := hd (show out.length = n by rw [← Hs.out, Cha.strRun_len, Hbl.out])
    rw [Hs.out] at own
    by_cases hjn : 64 * j < n
    · obtain ⟨G, cap, hv, hG, hGs, hcap⟩ := own.form (by rw [Hol.out]; omega)
      have hA' : A' = some ⟨G, 0, none⟩ := by injection hv
      subst hA'
      clear hv
      have t0 : 64 * (j : Int) < (n : Int) := by omega
      have w64 : IntKind.i64.wrap (64 * (j : Int) + 64) = 64 * (j : Int) + 64 := IntWalk.i64_in _ (by omega)
      have w65 : IntKind.i64.wrap ((n : Int) - 64 * (j : Int)) = (n : Int) - 64 * (j : Int) := IntWalk.i64_in _ (by omega)
      obtain ⟨q, Hq⟩ : ∃ q, Hd (count + UInt32.ofNat j = q) := ⟨_, ⟨rfl⟩⟩
      have Hq1 := hd (show count + UInt32.ofNat (j + 1) = q + 1 by rw [ofNat32_succ, ← UInt32.add_assoc, Hq.out])
      rw [Hq.out]
      have hk1 : G ≠ w.heap.size := fun e => own_blk_ne own.own kb (by decide) (by rw [e]; rfl)
      have hk2 : G ≠ w.heap.size + 1 := fun e => own_blk_ne own.own nb (by decide) (by rw [e]; rfl)
      go_wp2_with (first | (refine wpl_load_arr rfl 23 _ rfl _ rfl 32 Cha.ty32 key HK.out kb.cells_arr ?_) | (refine wpl_load_arr rfl 27 _ rfl _ rfl 12 Cha.ty12 nonce HN.out nb.cells_arr ?_))
      refine (Cha.block_any key nonce q HK.out HN.out wr).mono ?_
      rintro e w3 ⟨rfl, hB3⟩
      obtain ⟨x, Hx⟩ : ∃ x, Hd (Cha.block key q nonce = x) := ⟨_, ⟨rfl⟩⟩
      rw [Hx.out]
      have Hxl := hd (show x.length = 64 by rw [← Hx.out, Cha.block_len])
      have Hst := hd (show Cha.strRun key count nonce b (j + 1) = iter (Cha.xorAt (64 * j) x) (min 64 (out.length - 64 * j)) out by rw [Cha.strRun_succ, Hs.out, Cha.strStep, Hq.out, Hx.out])
      have own3 : OwnB w3 w.heap.size (.slice (some ⟨G, 0, none⟩) n c') out := own.moved (z := w3.heap.size) ⟨hB3.os, hB3.tape, hB3.output, hB3.size, fun i hi _ => hB3.block i hi⟩ (by rw [Cha.ownBlock_sl]; intro e; injection e; have := hB3.size; omega)
      have k3 := kb.below hB3 kb.lt
      have n3 := nb.below hB3 nb.lt
      have hB3' := hB.trans (hB3.mono hB.size)
      have hsz3 := hB3.size
      have hzk := k3.lt
      have hzn := n3.lt
      clear own kb nb hB hB3
      by_cases hmn : n - 64 * j < 64
      · have hm1 : (n : Int) - 64 * (j : Int) < 64 := by omega
        have Hmin := hd (show min 64 (out.length - 64 * j) = (n - 64 * j) by rw [Hol.out]; omega)
        go_wp2_with (first | (refine wpl_alloc rfl 126 rfl _ Cha.zero64 ?_) | ((refine wpl_store_arr rfl 126 _ _ rfl w3.heap.size x rfl rfl 126 _ (Blk.nu rfl) 64 Cha.agg64.size Hxl.out (by rw [arr_size]; rfl) ?_); refine wpl_name (fun wo => OwnB wo w.heap.size (.slice (some ⟨G, 0, none⟩) n c') out ∧ Blk wo w.heap.size 23 (arr key) ∧ Blk wo (w.heap.size + 1) 27 (arr nonce) ∧ Blk wo w3.heap.size 126 (arr x) ∧ Below w.heap.size w wo) ⟨own3.moved (grew_setRow (grew_alloc (World.grownBy.refl w3 (some w3.heap.size)) _) _) (by rw [Cha.ownBlock_sl]; intro e; injection e; omega), (k3.alloc _).farRow (by omega) _, (n3.alloc _).farRow (by omega) _, (Blk.nu rfl).setRow _, below_setRow (hB3'.alloc hB3'.size _) hB3'.size _⟩ ?_; rintro wo ⟨own, kb, nb, xblk, hB⟩))
        generalize w3.heap.size = z at *
        clear own3 k3 n3 hB3'
        go_loopw [32] (fun i wr => ∃ k : Nat, k ≤ (n - 64 * j) ∧ i = .int .i64 (k : Int) ∧ OwnB wr w.heap.size (.slice (some ⟨G, 0, none⟩) n c') (iter (Cha.xorAt (64 * j) x) k out) ∧ Blk wr w.heap.size 23 (arr key) ∧ Blk wr (w.heap.size + 1) 27 (arr nonce) ∧ Blk wr z 126 (arr x) ∧ Below w.heap.size w wr) (fun i _ => (n - 64 * j) - (intOf i).toNat)
        case atStart => exact ⟨0, by omega, rfl, own, kb, nb, xblk, hB⟩
        case round =>
          clear own kb nb xblk hB
          obtain ⟨k, hk3, rfl, own, kb, nb, xblk, hB⟩ := hrel
          obtain ⟨ok, Hok⟩ : ∃ o, Hd (iter (Cha.xorAt (64 * j) x) k out = o) := ⟨_, ⟨rfl⟩⟩
          rw [Hok.out] at own
          have Hokl := hd (show ok.length = n by rw [← Hok.out, Cha.xorAt_len, Hol.out])
          by_cases hkm : k < (n - 64 * j)
          · have ti : (k : Int) < (n : Int) - 64 * (j : Int) := by omega
            have t16 : (k : Int) < 64 := by omega
            have own' : OwnB wr w.heap.size (.slice (some ⟨G, 0, none⟩) ok.length c') ok := by rw [Hokl.out]; exact own
            obtain ⟨P, HP⟩ : ∃ P, Hd (64 * j + k = P) := ⟨_, ⟨rfl⟩⟩
            have eP : 64 * (j : Int) + (k : Int) = (P : Int) := by have := HP.out; omega
            have c0 := own'.cell P (by rw [Hokl.out, ← HP.out]; omega)
            have f0 := own'.frozen P
            have c1 := xblk.arr_cell k (by rw [Hxl.out]; omega)
            have v1 : IntKind.i64.wrap (P : Int) = (P : Int) := IntWalk.i64_in _ (by have := HP.out; omega)
            have v4 : (P : Int) < (n : Int) := by have := HP.out; omega
            have Hown := hd own'
            clear own own'
            go_wp2
            go_region
            go_wp2
            go_roundw
            case rel =>
              have own5 := Hown.out.set_ P (nth ok P ^^^ nth x k)
              rw [Hokl.out] at own5
              exact ⟨k + 1, by omega, by go_num, by rw [iter, Hok.out, Cha.xorAt, HP.out]; exact own5.drew, (kb.far (by simp; omega) _).drew, (nb.far (by simp; omega) _).drew, (xblk.far (by simp; omega) _).drew, (hB.setCell (by simp; omega) _).drew⟩
            case measure => simp [intOf]; omega
          · have ek : k = (n - 64 * j) := by omega
            have Hfin := hd (show (iter (Cha.xorAt (64 * j) x) (min 64 (out.length - 64 * j)) out) = ok by rw [Hmin.out]; have h := Hok.out; rw [ek] at h; exact h)
            have tk : ¬ (k : Int) < (n : Int) - 64 * (j : Int) := by omega
            go_wp2_with fail
            go_roundw
            case rel => exact ⟨j + 1, by omega, by rw [Hq1.out], by rw [show (64 * (j : Int) + 64) = 64 * ((j + 1 : Nat) : Int) by omega], by rw [Hst.out, Hfin.out]; exact own, kb, nb, hB⟩
            case measure => simp [intOf]; omega
      · have hm1 : 64 ≤ (n : Int) - 64 * (j : Int) := by omega
        have Hmin := hd (show min 64 (out.length - 64 * j) = 64 by rw [Hol.out]; omega)
        go_wp2_with (first | (refine wpl_alloc rfl 126 rfl _ Cha.zero64 ?_) | ((refine wpl_store_arr rfl 126 _ _ rfl w3.heap.size x rfl rfl 126 _ (Blk.nu rfl) 64 Cha.agg64.size Hxl.out (by rw [arr_size]; rfl) ?_); refine wpl_name (fun wo => OwnB wo w.heap.size (.slice (some ⟨G, 0, none⟩) n c') out ∧ Blk wo w.heap.size 23 (arr key) ∧ Blk wo (w.heap.size + 1) 27 (arr nonce) ∧ Blk wo w3.heap.size 126 (arr x) ∧ Below w.heap.size w wo) ⟨own3.moved (grew_setRow (grew_alloc (World.grownBy.refl w3 (some w3.heap.size)) _) _) (by rw [Cha.ownBlock_sl]; intro e; injection e; omega), (k3.alloc _).farRow (by omega) _, (n3.alloc _).farRow (by omega) _, (Blk.nu rfl).setRow _, below_setRow (hB3'.alloc hB3'.size _) hB3'.size _⟩ ?_; rintro wo ⟨own, kb, nb, xblk, hB⟩))
        generalize w3.heap.size = z at *
        clear own3 k3 n3 hB3'
        go_loopw [32] (fun i wr => ∃ k : Nat, k ≤ 64 ∧ i = .int .i64 (k : Int) ∧ OwnB wr w.heap.size (.slice (some ⟨G, 0, none⟩) n c') (iter (Cha.xorAt (64 * j) x) k out) ∧ Blk wr w.heap.size 23 (arr key) ∧ Blk wr (w.heap.size + 1) 27 (arr nonce) ∧ Blk wr z 126 (arr x) ∧ Below w.heap.size w wr) (fun i _ => 64 - (intOf i).toNat)
        case atStart => exact ⟨0, by omega, rfl, own, kb, nb, xblk, hB⟩
        case round =>
          clear own kb nb xblk hB
          obtain ⟨k, hk3, rfl, own, kb, nb, xblk, hB⟩ := hrel
          obtain ⟨ok, Hok⟩ : ∃ o, Hd (iter (Cha.xorAt (64 * j) x) k out = o) := ⟨_, ⟨rfl⟩⟩
          rw [Hok.out] at own
          have Hokl := hd (show ok.length = n by rw [← Hok.out, Cha.xorAt_len, Hol.out])
          by_cases hkm : k < 64
          · have ti : (k : Int) < 64 := by omega
            have t16 : (k : Int) < 64 := by omega
            have own' : OwnB wr w.heap.size (.slice (some ⟨G, 0, none⟩) ok.length c') ok := by rw [Hokl.out]; exact own
            obtain ⟨P, HP⟩ : ∃ P, Hd (64 * j + k = P) := ⟨_, ⟨rfl⟩⟩
            have eP : 64 * (j : Int) + (k : Int) = (P : Int) := by have := HP.out; omega
            have c0 := own'.cell P (by rw [Hokl.out, ← HP.out]; omega)
            have f0 := own'.frozen P
            have c1 := xblk.arr_cell k (by rw [Hxl.out]; omega)
            have v1 : IntKind.i64.wrap (P : Int) = (P : Int) := IntWalk.i64_in _ (by have := HP.out; omega)
            have v4 : (P : Int) < (n : Int) := by have := HP.out; omega
            have Hown := hd own'
            clear own own'
            go_wp2
            go_region
            go_wp2
            go_roundw
            case rel =>
              have own5 := Hown.out.set_ P (nth ok P ^^^ nth x k)
              rw [Hokl.out] at own5
              exact ⟨k + 1, by omega, by go_num, by rw [iter, Hok.out, Cha.xorAt, HP.out]; exact own5.drew, (kb.far (by simp; omega) _).drew, (nb.far (by simp; omega) _).drew, (xblk.far (by simp; omega) _).drew, (hB.setCell (by simp; omega) _).drew⟩
            case measure => simp [intOf]; omega
          · have ek : k = 64 := by omega
            have Hfin := hd (show (iter (Cha.xorAt (64 * j) x) (min 64 (out.length - 64 * j)) out) = ok by rw [Hmin.out]; have h := Hok.out; rw [ek] at h; exact h)
            have tk : ¬ (k : Int) < 64 := by omega
            go_wp2_with fail
            go_roundw
            case rel => exact ⟨j + 1, by omega, by rw [Hq1.out], by rw [show (64 * (j : Int) + 64) = 64 * ((j + 1 : Nat) : Int) by omega], by rw [Hst.out, Hfin.out]; exact own, kb, nb, hB⟩
            case measure => simp [intOf]; omega
    · have t0 : ¬ 64 * (j : Int) < (n : Int) := by omega
      have Hj := hd (show (b.length + 63) / 64 = j by rw [Hbl.out]; omega)
      go_wp2
      go_ret
      exact ⟨_, rfl, by unfold Cha.stream; rw [Hj.out, Hs.out]; exact own, hB⟩
end Go.Proofs.YthigbggacgiamaaDoor
