/-
  The walk of AES's stream.
-/
import Derived.Test.YthigbggacgiamaaDoorJa
import Derived.Test.YthigbggacgiamaaDoorJb
set_option linter.unusedVariables false
set_option linter.unusedSimpArgs false
set_option maxRecDepth 100000
namespace Go.Proofs.YthigbggacgiamaaDoor
open Go.RowKit
theorem ownBlock_slice' (G n c : Nat) : (Value.slice (some ⟨G, 0, none⟩) n c).ownBlock = some G := rfl
set_option maxHeartbeats 4000000 in
set_option maxRecDepth 100000 in
theorem stream_any (g : Nat) (rs : List (List UInt8)) (hrs : 1 ≤ rs.length) (hrl : rs.length ≤ 100) (ctr : List UInt8) (hc : ctr.length = 16) (A : Option Addr) (n c : Nat) (b : List UInt8) (w : World) (hk : KeyAt w g rs) (hr : ReadsB w w.heap.size A n b) (hn : n ≤ 140737488355328) :
    Calls Tryd.prog 62 #[.pointer (some ⟨g, 0, none⟩), .agg (arr ctr), .slice A n c] w fun e w' => ∃ v, e = .returned v ∧ OwnB w' w.heap.size v (Aes.stream rs ctr b) ∧ Below w.heap.size w w' := by
  have Hc := hd hc
  have Hbl := hd hr.len
  clear hc
  have hB0 := (Below.refl w.heap.size w).alloc (Nat.le_refl _) (.cells (arr ctr) 87)
  have ctr0 : Blk (w.alloc (.cells (arr ctr) 87)) w.heap.size 87 (arr ctr) := Blk.nu rfl
  have hr0 : ReadsB (w.alloc (.cells (arr ctr) 87)) w.heap.size A n b := ⟨hr.len, hr.is.alloc (Nat.le_refl _) _⟩
  have hc2 : ([] : List UInt8).length + b.length ≤ 140737488355328 := by rw [Hbl.out]; simpa using hn
  go_enter Tryd.func62, Tryd.ntmps62
  go_wp2_with (at_builtin; refine wpl_appendB rfl _ _ rfl w.heap.size (.slice none 0 0) [] rfl (OwnB.nil _ _) w.heap.size A n c b rfl hr0 hc2 hB0.size ?_; intro v2 w2 own2 gr2 at2)
  have ctr2 := ctr0.appended (OwnB.nil _ w.heap.size) gr2 (by decide)
  have hB2 := below_appended hB0 (OwnB.nil _ w.heap.size) gr2 (Nat.le_refl _) hB0.size
  have hlen : ∃ A' c', v2 = .slice A' n c' := by
    have := own2.own.2
    rcases this with ⟨h, h0⟩ | ⟨g', cap, cur, h, _⟩
    · refine ⟨none, 0, ?_⟩
      have : n = 0 := by rw [← Hbl.out]; simpa using h0
      rw [h, this]
    · exact ⟨some ⟨g', 0, none⟩, cap, by rw [h]; simp [Hbl.out]⟩
  obtain ⟨A', c', rfl⟩ := hlen
  rw [List.nil_append] at own2
  clear gr2 at2 hr hr0 ctr0 hB0
  have hzk : g < w.heap.size := by obtain ⟨r, c, _, h, _⟩ := hk.ex; exact h.lt
  go_wp2_with fail
  go_loopw [8] (fun i wr => ∃ j : Nat, 16 * j < n + 16 ∧ i = .int .i64 (16 * (j : Int)) ∧ OwnB wr w.heap.size (.slice A' n c') (Aes.strRun rs ctr b j).1 ∧ Blk wr w.heap.size 87 (arr (Aes.strRun rs ctr b j).2) ∧ Below w.heap.size w wr) (fun i _ => (n : Int) + 16 - intOf i |>.toNat)
  case atStart => exact ⟨0, by omega, rfl, by rw [Aes.strRun_zero]; exact own2, by rw [Aes.strRun_zero]; exact ctr2, hB2⟩
  case round =>
    clear own2 ctr2 hB2
    obtain ⟨j, hj, rfl, own, cblk, hB⟩ := hrel
    have hl1 := (Aes.strRun_len rs ctr b j)
    obtain ⟨⟨out, cc⟩, Hs⟩ : ∃ s, Hd (Aes.strRun rs ctr b j = s) := ⟨_, ⟨rfl⟩⟩
    rw [Hs.out] at own cblk hl1
    dsimp only at own cblk hl1
    have Hol := hd (hl1.1.trans Hbl.out)
    have Hcl := hd (hl1.2.trans Hc.out)
    clear hl1
    by_cases hjn : 16 * j < n
    · obtain ⟨G, cap, hv, hG, hGs, hcap⟩ := own.form (by rw [Hol.out]; omega)
      have hA' : A' = some ⟨G, 0, none⟩ := by injection hv
      subst hA'
      clear hv
      have hGne : G ≠ w.heap.size := fun e => own_blk_ne own.own cblk (by decide) (by rw [e]; rfl)
      have t0 : 16 * (j : Int) < (n : Int) := by omega
      have hzlt := cblk.lt
      have hkr := hk.below (hB)
      go_wp2_with (refine wpl_load_arr rfl 87 _ rfl _ rfl 16 ty16 cc Hcl.out cblk.cells_arr ?_)
      refine (encrypt_any g rs cc Hcl.out hrs hrl _ hkr).mono ?_
      rintro e w3 ⟨rfl, hB3⟩
      obtain ⟨x, Hx⟩ : ∃ x, Hd (Aes.enc rs cc = x) := ⟨_, ⟨rfl⟩⟩
      rw [Hx.out]
      have Hxl := hd (show x.length = 16 by rw [← Hx.out, Aes.enc_len _ _ Hcl.out])
      have own3 : OwnB w3 w.heap.size (.slice (some ⟨G, 0, none⟩) n c') out := own.moved (z := w3.heap.size) ⟨hB3.os, hB3.tape, hB3.output, hB3.size, fun i hi _ => hB3.block i hi⟩ (by rw [ownBlock_slice']; intro e; injection e; have := hB3.size; omega)
      have c3 := cblk.below hB3 cblk.lt
      have hB3' := hB.trans (hB3.mono hB.size)
      have hsz3 := hB3.size
      clear own cblk hB hB3 hkr
      by_cases hmn : n - 16 * j < 16
      · have hm1 : (n : Int) - 16 * (j : Int) < 16 := by omega
        have Hmin := hd (show min 16 (out.length - 16 * j) = (n - 16 * j) by rw [Hol.out]; omega)
        go_wp2_with (first | (refine wpl_alloc rfl 87 rfl _ zero16 ?_) | ((refine wpl_store_arr rfl 87 _ _ rfl w3.heap.size x rfl rfl 87 _ (Blk.nu rfl) 16 ty16.size Hxl.out (by rw [arr_size]; rfl) ?_); refine wpl_name (fun wo => OwnB wo w.heap.size (.slice (some ⟨G, 0, none⟩) n c') out ∧ Blk wo w.heap.size 87 (arr cc) ∧ Blk wo w3.heap.size 87 (arr x) ∧ Below w.heap.size w wo) ⟨own3.moved (grew_setRow (grew_alloc (World.grownBy.refl w3 (some w3.heap.size)) _) _) (by rw [ownBlock_slice']; intro e; injection e; omega), (c3.alloc _).farRow (by omega) _, (Blk.nu rfl).setRow _, below_setRow (hB3'.alloc hB3'.size _) hB3'.size _⟩ ?_; rintro wo ⟨own, cblk, xblk, hB⟩))
        generalize w3.heap.size = z at *
        clear own3 c3 hB3'
        go_loopw [28] (fun i wr => ∃ k : Nat, k ≤ (n - 16 * j) ∧ i = .int .i64 (k : Int) ∧ OwnB wr w.heap.size (.slice (some ⟨G, 0, none⟩) n c') (iter (Aes.xorAt (16 * j) x) k out) ∧ Blk wr w.heap.size 87 (arr cc) ∧ Blk wr z 87 (arr x) ∧ Below w.heap.size w wr) (fun i _ => (n - 16 * j) - (intOf i).toNat)
        case atStart => exact ⟨0, by omega, rfl, own, cblk, xblk, hB⟩
        case round =>
          clear own cblk xblk hB
          obtain ⟨k, hk1, rfl, own, cblk, xblk, hB⟩ := hrel
          obtain ⟨ok, Hok⟩ : ∃ o, Hd (iter (Aes.xorAt (16 * j) x) k out = o) := ⟨_, ⟨rfl⟩⟩
          rw [Hok.out] at own
          have Hokl := hd (show ok.length = n by rw [← Hok.out, Aes.xorAt_len, Hol.out])
          by_cases hkm : k < (n - 16 * j)
          · have ti : (k : Int) < (n : Int) - 16 * (j : Int) := by omega
            have t16 : (k : Int) < 16 := by omega
            have own' : OwnB wr w.heap.size (.slice (some ⟨G, 0, none⟩) ok.length c') ok := by rw [Hokl.out]; exact own
            have c0 := own'.cell (16 * j + k) (by rw [Hokl.out]; omega)
            have f0 := own'.frozen (16 * j + k)
            have c1 := xblk.arr_cell k (by rw [Hxl.out]; omega)
            have v1 : IntKind.i64.wrap (16 * (j : Int) + (k : Int)) = 16 * (j : Int) + (k : Int) := IntWalk.i64_in _ (by omega)
            have v2 : (16 * (j : Int) + (k : Int)).toNat = 16 * j + k := by omega
            have v3 : 0 ≤ 16 * (j : Int) + (k : Int) := by omega
            have v4 : 16 * (j : Int) + (k : Int) < (n : Int) := by omega
            have Hown := hd own'
            have Hg := hd hGs
            clear own own'
            go_wp2
            go_still_tail 11, (by kernel_rfl)
            change wpList _ _ _ _ _ wr.drew
            go_wp2
            clear v1 v2 v3 v4
            go_roundw
            case rel =>
              have own5 := (Hown.out.drew).set_ (16 * j + k) (nth ok (16 * j + k) ^^^ nth x k)
              rw [Hokl.out] at own5
              exact ⟨k + 1, by omega, by go_num, by rw [iter, Hok.out, Aes.xorAt]; exact own5, cblk.drew.far (by simp; omega) _, xblk.drew.far (by simp; omega) _, hB.drew.setCell (by simp; omega) _⟩
            case measure => simp [intOf]; omega
          · have ek : k = (n - 16 * j) := by omega
            have Hfin := hd (show (iter (Aes.xorAt (16 * j) x) (min 16 (out.length - 16 * j)) out) = ok by rw [Hmin.out]; have h := Hok.out; rw [ek] at h; exact h)
            have Hek := hd ek
            have tk : ¬ (k : Int) < (n : Int) - 16 * (j : Int) := by omega
            clear ek
            go_wp2_with fail
            go_loopw [11] (fun i wr => ∃ f : Nat, f ≤ 4 ∧ i = .int .i64 (11 + (f : Int)) ∧ OwnB wr w.heap.size (.slice (some ⟨G, 0, none⟩) n c') ok ∧ (∃ ck, ck.length = 16 ∧ Aes.incAt f (11 + f) ck = Aes.inc cc ∧ Blk wr w.heap.size 87 (arr ck)) ∧ Below w.heap.size w wr) (fun i _ => (intOf i).toNat)
            case atStart => exact ⟨4, by omega, rfl, own, ⟨cc, Hcl.out, by rw [Aes.inc_eq], cblk⟩, hB⟩
            case round =>
              clear own cblk hB
              obtain ⟨f, hf, rfl, own, ⟨ck, hckl, hcki, cblk⟩, hB⟩ := hrel
              have Hckl := hd hckl
              have Hcki := hd hcki
              clear hckl hcki
              have hne : (Value.slice (some ⟨G, 0, none⟩) n c').ownBlock ≠ some w.heap.size := own_blk_ne own.own cblk (by decide)
              rcases f with _ | f
              · have t12 : ¬ (12 : Int) ≤ 11 := by omega
                go_wp2
                go_roundw
                case rel =>
                  refine ⟨j + 1, by omega, by rw [show (16 * (j : Int) + 16) = 16 * ((j + 1 : Nat) : Int) by omega], ?_, ?_, hB⟩
                  · rw [Aes.strRun_succ, Hs.out, Aes.strStep]; dsimp only; rw [Hx.out, Hfin.out]; exact own
                  · rw [Aes.strRun_succ, Hs.out, Aes.strStep]; dsimp only; rw [← Hcki.out, Aes.incAt_zero]; exact cblk
                case measure => simp [intOf]; omega
              · obtain ⟨p, Hp⟩ : ∃ p, Hd (12 + f = p) := ⟨_, ⟨rfl⟩⟩
                have hp12 : 12 ≤ p := by rw [← Hp.out]; omega
                have hp15 : p ≤ 15 := by rw [← Hp.out]; omega
                rw [show (11 + ((f + 1 : Nat) : Int)) = (p : Int) by rw [← Hp.out]; omega]
                have t12 : (12 : Int) ≤ (p : Int) := by omega
                have c0 := cblk.arr_cell p (by rw [Hckl.out]; omega)
                have f0 := cblk.frozen p
                obtain ⟨y, Hy⟩ : ∃ y, Hd (nth ck p + 1 = y) := ⟨_, ⟨rfl⟩⟩
                have own6 := own.far (p := ⟨w.heap.size, p, none⟩) hne (.int .u8 (n8 y))
                have cblk6 := cblk.arr_set p y
                have hB6 := hB.setCell (p := ⟨w.heap.size, p, none⟩) (Nat.le_refl _) (.int .u8 (n8 y))
                have Hst := hd (show (nth ck p + 1) = y from Hy.out)
                by_cases hy : y = 0
                · have hon := Aes.incAt_on f (11 + (f + 1)) ck (by rw [show 11 + (f + 1) = p by rw [← Hp.out]; omega, Hy.out]; exact hy)
                  rw [Hcki.out, show 11 + (f + 1) = p by rw [← Hp.out]; omega, Hy.out] at hon
                  have Hon := hd hon
                  have Hpf := hd (show p - 1 = 11 + f by rw [← Hp.out]; omega)
                  clear hon
                  have Hyy := hd hy
                  have tb : (nth ck p + 1 != 0) = false := by rw [Hy.out, hy]; rfl
                  clear hy
                  go_wp2
                  rw [Hst.out]
                  go_roundw
                  case rel =>
                    exact ⟨f, by omega, by rw [show ((p : Int) - 1) = 11 + (f : Int) by rw [← Hp.out]; omega], own6, ⟨ck.set p y, by rw [List.length_set, Hckl.out], by rw [← Hpf.out]; exact Hon.out.symm, cblk6⟩, hB6⟩
                  case measure => simp [intOf]; omega
                · have hoff := Aes.incAt_off f (11 + (f + 1)) ck (by rw [show 11 + (f + 1) = p by rw [← Hp.out]; omega, Hy.out]; exact hy)
                  rw [Hcki.out, show 11 + (f + 1) = p by rw [← Hp.out]; omega, Hy.out] at hoff
                  have Hoff := hd hoff
                  clear hoff
                  have tb : (nth ck p + 1 != 0) = true := by rw [Hy.out, bne_iff_ne]; exact hy
                  have Hyy := hd hy
                  clear hy
                  go_wp2
                  rw [Hst.out]
                  go_roundw
                  case rel =>
                    refine ⟨j + 1, by omega, by rw [show (16 * (j : Int) + 16) = 16 * ((j + 1 : Nat) : Int) by omega], ?_, ?_, hB6⟩
                    · rw [Aes.strRun_succ, Hs.out, Aes.strStep]; dsimp only; rw [Hx.out, Hfin.out]; exact own6
                    · rw [Aes.strRun_succ, Hs.out, Aes.strStep]; dsimp only; rw [Hoff.out]; exact cblk6
                  case measure => simp [intOf]; omega
      · have hm1 : (16 : Int) ≤ (n : Int) - 16 * (j : Int) := by omega
        have Hmin := hd (show min 16 (out.length - 16 * j) = 16 by rw [Hol.out]; omega)
        go_wp2_with (first | (refine wpl_alloc rfl 87 rfl _ zero16 ?_) | ((refine wpl_store_arr rfl 87 _ _ rfl w3.heap.size x rfl rfl 87 _ (Blk.nu rfl) 16 ty16.size Hxl.out (by rw [arr_size]; rfl) ?_); refine wpl_name (fun wo => OwnB wo w.heap.size (.slice (some ⟨G, 0, none⟩) n c') out ∧ Blk wo w.heap.size 87 (arr cc) ∧ Blk wo w3.heap.size 87 (arr x) ∧ Below w.heap.size w wo) ⟨own3.moved (grew_setRow (grew_alloc (World.grownBy.refl w3 (some w3.heap.size)) _) _) (by rw [ownBlock_slice']; intro e; injection e; omega), (c3.alloc _).farRow (by omega) _, (Blk.nu rfl).setRow _, below_setRow (hB3'.alloc hB3'.size _) hB3'.size _⟩ ?_; rintro wo ⟨own, cblk, xblk, hB⟩))
        generalize w3.heap.size = z at *
        clear own3 c3 hB3'
        go_loopw [28] (fun i wr => ∃ k : Nat, k ≤ 16 ∧ i = .int .i64 (k : Int) ∧ OwnB wr w.heap.size (.slice (some ⟨G, 0, none⟩) n c') (iter (Aes.xorAt (16 * j) x) k out) ∧ Blk wr w.heap.size 87 (arr cc) ∧ Blk wr z 87 (arr x) ∧ Below w.heap.size w wr) (fun i _ => 16 - (intOf i).toNat)
        case atStart => exact ⟨0, by omega, rfl, own, cblk, xblk, hB⟩
        case round =>
          clear own cblk xblk hB
          obtain ⟨k, hk1, rfl, own, cblk, xblk, hB⟩ := hrel
          obtain ⟨ok, Hok⟩ : ∃ o, Hd (iter (Aes.xorAt (16 * j) x) k out = o) := ⟨_, ⟨rfl⟩⟩
          rw [Hok.out] at own
          have Hokl := hd (show ok.length = n by rw [← Hok.out, Aes.xorAt_len, Hol.out])
          by_cases hkm : k < 16
          · have ti : (k : Int) < 16 := by omega
            have t16 : (k : Int) < 16 := by omega
            have own' : OwnB wr w.heap.size (.slice (some ⟨G, 0, none⟩) ok.length c') ok := by rw [Hokl.out]; exact own
            have c0 := own'.cell (16 * j + k) (by rw [Hokl.out]; omega)
            have f0 := own'.frozen (16 * j + k)
            have c1 := xblk.arr_cell k (by rw [Hxl.out]; omega)
            have v1 : IntKind.i64.wrap (16 * (j : Int) + (k : Int)) = 16 * (j : Int) + (k : Int) := IntWalk.i64_in _ (by omega)
            have v2 : (16 * (j : Int) + (k : Int)).toNat = 16 * j + k := by omega
            have v3 : 0 ≤ 16 * (j : Int) + (k : Int) := by omega
            have v4 : 16 * (j : Int) + (k : Int) < (n : Int) := by omega
            have Hown := hd own'
            have Hg := hd hGs
            clear own own'
            go_wp2
            go_still_tail 11, (by kernel_rfl)
            change wpList _ _ _ _ _ wr.drew
            go_wp2
            clear v1 v2 v3 v4
            go_roundw
            case rel =>
              have own5 := (Hown.out.drew).set_ (16 * j + k) (nth ok (16 * j + k) ^^^ nth x k)
              rw [Hokl.out] at own5
              exact ⟨k + 1, by omega, by go_num, by rw [iter, Hok.out, Aes.xorAt]; exact own5, cblk.drew.far (by simp; omega) _, xblk.drew.far (by simp; omega) _, hB.drew.setCell (by simp; omega) _⟩
            case measure => simp [intOf]; omega
          · have ek : k = 16 := by omega
            have Hfin := hd (show (iter (Aes.xorAt (16 * j) x) (min 16 (out.length - 16 * j)) out) = ok by rw [Hmin.out]; have h := Hok.out; rw [ek] at h; exact h)
            have Hek := hd ek
            have tk : ¬ (k : Int) < 16 := by omega
            clear ek
            go_wp2_with fail
            go_loopw [11] (fun i wr => ∃ f : Nat, f ≤ 4 ∧ i = .int .i64 (11 + (f : Int)) ∧ OwnB wr w.heap.size (.slice (some ⟨G, 0, none⟩) n c') ok ∧ (∃ ck, ck.length = 16 ∧ Aes.incAt f (11 + f) ck = Aes.inc cc ∧ Blk wr w.heap.size 87 (arr ck)) ∧ Below w.heap.size w wr) (fun i _ => (intOf i).toNat)
            case atStart => exact ⟨4, by omega, rfl, own, ⟨cc, Hcl.out, by rw [Aes.inc_eq], cblk⟩, hB⟩
            case round =>
              clear own cblk hB
              obtain ⟨f, hf, rfl, own, ⟨ck, hckl, hcki, cblk⟩, hB⟩ := hrel
              have Hckl := hd hckl
              have Hcki := hd hcki
              clear hckl hcki
              have hne : (Value.slice (some ⟨G, 0, none⟩) n c').ownBlock ≠ some w.heap.size := own_blk_ne own.own cblk (by decide)
              rcases f with _ | f
              · have t12 : ¬ (12 : Int) ≤ 11 := by omega
                go_wp2
                go_roundw
                case rel =>
                  refine ⟨j + 1, by omega, by rw [show (16 * (j : Int) + 16) = 16 * ((j + 1 : Nat) : Int) by omega], ?_, ?_, hB⟩
                  · rw [Aes.strRun_succ, Hs.out, Aes.strStep]; dsimp only; rw [Hx.out, Hfin.out]; exact own
                  · rw [Aes.strRun_succ, Hs.out, Aes.strStep]; dsimp only; rw [← Hcki.out, Aes.incAt_zero]; exact cblk
                case measure => simp [intOf]; omega
              · obtain ⟨p, Hp⟩ : ∃ p, Hd (12 + f = p) := ⟨_, ⟨rfl⟩⟩
                have hp12 : 12 ≤ p := by rw [← Hp.out]; omega
                have hp15 : p ≤ 15 := by rw [← Hp.out]; omega
                rw [show (11 + ((f + 1 : Nat) : Int)) = (p : Int) by rw [← Hp.out]; omega]
                have t12 : (12 : Int) ≤ (p : Int) := by omega
                have c0 := cblk.arr_cell p (by rw [Hckl.out]; omega)
                have f0 := cblk.frozen p
                obtain ⟨y, Hy⟩ : ∃ y, Hd (nth ck p + 1 = y) := ⟨_, ⟨rfl⟩⟩
                have own6 := own.far (p := ⟨w.heap.size, p, none⟩) hne (.int .u8 (n8 y))
                have cblk6 := cblk.arr_set p y
                have hB6 := hB.setCell (p := ⟨w.heap.size, p, none⟩) (Nat.le_refl _) (.int .u8 (n8 y))
                have Hst := hd (show (nth ck p + 1) = y from Hy.out)
                by_cases hy : y = 0
                · have hon := Aes.incAt_on f (11 + (f + 1)) ck (by rw [show 11 + (f + 1) = p by rw [← Hp.out]; omega, Hy.out]; exact hy)
                  rw [Hcki.out, show 11 + (f + 1) = p by rw [← Hp.out]; omega, Hy.out] at hon
                  have Hon := hd hon
                  have Hpf := hd (show p - 1 = 11 + f by rw [← Hp.out]; omega)
                  clear hon
                  have Hyy := hd hy
                  have tb : (nth ck p + 1 != 0) = false := by rw [Hy.out, hy]; rfl
                  clear hy
                  go_wp2
                  rw [Hst.out]
                  go_roundw
                  case rel =>
                    exact ⟨f, by omega, by rw [show ((p : Int) - 1) = 11 + (f : Int) by rw [← Hp.out]; omega], own6, ⟨ck.set p y, by rw [List.length_set, Hckl.out], by rw [← Hpf.out]; exact Hon.out.symm, cblk6⟩, hB6⟩
                  case measure => simp [intOf]; omega
                · have hoff := Aes.incAt_off f (11 + (f + 1)) ck (by rw [show 11 + (f + 1) = p by rw [← Hp.out]; omega, Hy.out]; exact hy)
                  rw [Hcki.out, show 11 + (f + 1) = p by rw [← Hp.out]; omega, Hy.out] at hoff
                  have Hoff := hd hoff
                  clear hoff
                  have tb : (nth ck p + 1 != 0) = true := by rw [Hy.out, bne_iff_ne]; exact hy
                  have Hyy := hd hy
                  clear hy
                  go_wp2
                  rw [Hst.out]
                  go_roundw
                  case rel =>
                    refine ⟨j + 1, by omega, by rw [show (16 * (j : Int) + 16) = 16 * ((j + 1 : Nat) : Int) by omega], ?_, ?_, hB6⟩
                    · rw [Aes.strRun_succ, Hs.out, Aes.strStep]; dsimp only; rw [Hx.out, Hfin.out]; exact own6
                    · rw [Aes.strRun_succ, Hs.out, Aes.strStep]; dsimp only; rw [Hoff.out]; exact cblk6
                  case measure => simp [intOf]; omega
    · have ej : j = (b.length + 15) / 16 := by rw [Hbl.out]; omega
      have Hej := hd ej
      clear ej
      have t0 : ¬ 16 * (j : Int) < (n : Int) := by omega
      go_wp2
      go_ret
      refine ⟨_, rfl, ?_, hB⟩
      rw [Aes.stream_eq, ← Hej.out, Hs.out]
      exact own
end Go.Proofs.YthigbggacgiamaaDoor
