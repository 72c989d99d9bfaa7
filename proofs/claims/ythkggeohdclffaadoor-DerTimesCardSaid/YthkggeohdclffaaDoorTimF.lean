/-
  The walk of ref14.Time.
-/
import Derived.Test.YthkggeohdclffaaDoorTimD
import Derived.Test.YthkggeohdclffaaDoorTimE
import Derived.BigQuiet
import Derived.Deep.QuietTactic
import Derived.BigRegion
set_option linter.unusedVariables false
set_option linter.unusedSimpArgs false
set_option maxRecDepth 100000
namespace Go.Proofs.YthkggeohdclffaaDoor
open Go.RowKit
namespace Cal
/-- The seven numbers of two digits, while they are read. -/
def tw (b : List UInt8) (k j : Nat) : Nat := if 2 * j + 2 ≤ k then pr b j else if 2 * j + 1 ≤ k then dv (nth b (2 * j)) else 0
def arr7 (b : List UInt8) (k : Nat) : Array Value := #[.int .i64 (tw b k 0 : Int), .int .i64 (tw b k 1 : Int), .int .i64 (tw b k 2 : Int), .int .i64 (tw b k 3 : Int), .int .i64 (tw b k 4 : Int), .int .i64 (tw b k 5 : Int), .int .i64 (tw b k 6 : Int)]
theorem arr7_step (b : List UInt8) (k : Nat) (hk : k < 14) : (arr7 b k).setIfInBounds (k / 2) (.int .i64 (10 * (tw b k (k / 2) : Int) + (dv (nth b k) : Int))) = arr7 b (k + 1) := by
  rcases (show k = 0 ∨ k = 1 ∨ k = 2 ∨ k = 3 ∨ k = 4 ∨ k = 5 ∨ k = 6 ∨ k = 7 ∨ k = 8 ∨ k = 9 ∨ k = 10 ∨ k = 11 ∨ k = 12 ∨ k = 13 by omega) with rfl | rfl | rfl | rfl | rfl | rfl | rfl | rfl | rfl | rfl | rfl | rfl | rfl | rfl <;> simp [arr7, tw, pr]
theorem arr7_at (b : List UInt8) (k h : Nat) (hh : h < 7) : (arr7 b k)[h]? = some (.int .i64 (tw b k h : Int)) := by
  rcases (show h = 0 ∨ h = 1 ∨ h = 2 ∨ h = 3 ∨ h = 4 ∨ h = 5 ∨ h = 6 by omega) with rfl | rfl | rfl | rfl | rfl | rfl | rfl <;> rfl
theorem sub48 (x : UInt8) (h : 48 ≤ n8 x) : n8 (x - 48) = dv x := by
  unfold dv n8
  rw [UInt8.toNat_sub_of_le x 48 (UInt8.le_iff_toNat_le.2 h)]
  rfl
theorem not_digit (x : UInt8) (h : inSet digits x = false) : x < 48 ∨ 57 < x := by
  have h1 : ¬ (48 ≤ n8 x ∧ n8 x ≤ 57) := fun h2 => by rw [(digit_is x).2 h2] at h; cases h
  rcases Nat.lt_or_ge (n8 x) 48 with h2 | h2
  · exact .inl (UInt8.lt_iff_toNat_lt.2 h2)
  · exact .inr (UInt8.lt_iff_toNat_lt.2 (by have : ¬ n8 x ≤ 57 := fun h3 => h1 ⟨h2, h3⟩; show 57 < n8 x; omega))
theorem is_digit (x : UInt8) (h : inSet digits x = true) : ¬ x < 48 ∧ ¬ 57 < x := by
  have h1 := (digit_is x).1 h
  exact ⟨fun h2 => by have h3 : n8 x < 48 := UInt8.lt_iff_toNat_lt.1 h2; omega, fun h2 => by have h3 : 57 < n8 x := UInt8.lt_iff_toNat_lt.1 h2; omega⟩
theorem split_last (b : List UInt8) (L : Nat) (h : b.length = L + 1) (hz : nth b L = 90) : b = b.take L ++ [90] := by
  have h1 := take_next b L (by omega)
  rw [hz, List.take_of_length_le (by omega)] at h1
  exact h1
theorem nth_take (b : List UInt8) (L i : Nat) (h : i < L) : nth (b.take L) i = nth b i := by
  unfold nth
  simp only [List.getD_eq_getElem?_getD, List.getElem?_take, if_pos h]
theorem pr_take (b : List UInt8) (L k : Nat) (h : 2 * k + 1 < L) : pr (b.take L) k = pr b k := by
  unfold pr
  rw [nth_take _ _ _ (by omega), nth_take _ _ _ h]
theorem pr_cons2 (x y : UInt8) (s : List UInt8) (k : Nat) : pr ([x, y] ++ s) (k + 1) = pr s k := by
  unfold pr
  have e1 : nth ([x, y] ++ s) (2 * (k + 1)) = nth s (2 * k) := by unfold nth; rw [show 2 * (k + 1) = 2 * k + 1 + 1 by omega]; rfl
  have e2 : nth ([x, y] ++ s) (2 * (k + 1) + 1) = nth s (2 * k + 1) := by unfold nth; rw [show 2 * (k + 1) + 1 = 2 * k + 1 + 1 + 1 by omega]; rfl
  rw [e1, e2]
/-- A form's numbers, as the reference reads them. -/
theorem form24 (b : List UInt8) (h : b.length = 15) (hz : nth b 14 = 90) (hd : ∀ i, i < 14 → inSet digits (nth b i) = true) : ∃ t, Form 24 b t ∧ six t 0 = 100 * pr b 0 + pr b 1 ∧ ∀ k, 1 ≤ k → k < 6 → six t k = pr b (k + 1) := by
  have hb := split_last b 14 h hz
  refine ⟨b.take 14, ⟨b.take 14, hb, ?_, .inr ⟨rfl, by rw [List.length_take]; omega, rfl⟩⟩, ?_, ?_⟩
  · intro c hc
    obtain ⟨i, hi, e⟩ := List.mem_iff_getElem.1 hc
    have hi2 : i < 14 := by rw [List.length_take] at hi; omega
    have h2 := hd i hi2
    rw [← nth_take b 14 i hi2] at h2
    unfold nth at h2
    rw [List.getD_eq_getElem?_getD, List.getElem?_eq_getElem hi, e] at h2
    exact h2
  · unfold six
    rw [if_pos rfl, pr_take _ _ _ (by omega), pr_take _ _ _ (by omega)]
  · intro k h1 h2
    unfold six
    rw [if_neg (by omega), pr_take _ _ _ (by omega)]
theorem form23 (b : List UInt8) (h : b.length = 13) (hz : nth b 12 = 90) (hd : ∀ i, i < 12 → inSet digits (nth b i) = true) : ∃ t, Form 23 b t ∧ six t 0 = (if 50 ≤ pr b 0 then 1900 + pr b 0 else 2000 + pr b 0) ∧ ∀ k, 1 ≤ k → k < 6 → six t k = pr b k := by
  have hb := split_last b 12 h hz
  refine ⟨(if 53 ≤ n8 (nth (b.take 12) 0) then [49, 57] else [50, 48]) ++ b.take 12, ⟨b.take 12, hb, ?_, .inl ⟨rfl, by rw [List.length_take]; omega, rfl⟩⟩, ?_, ?_⟩
  · intro c hc
    obtain ⟨i, hi, e⟩ := List.mem_iff_getElem.1 hc
    have hi2 : i < 12 := by rw [List.length_take] at hi; omega
    have h2 := hd i hi2
    rw [← nth_take b 12 i hi2] at h2
    unfold nth at h2
    rw [List.getD_eq_getElem?_getD, List.getElem?_eq_getElem hi, e] at h2
    exact h2
  · have d0 := (digit_is _).1 (hd 0 (by omega))
    have d1 := dv_le _ (hd 1 (by omega))
    rw [nth_take b 12 0 (by omega)]
    have hp : pr b 0 = 10 * dv (nth b 0) + dv (nth b 1) := rfl
    have hdv : dv (nth b 0) = n8 (nth b 0) - 48 := rfl
    unfold six
    rw [if_pos rfl]
    by_cases h5 : 53 ≤ n8 (nth b 0)
    · rw [if_pos h5, if_pos (by omega), pr_cons2 _ _ _ 0, pr_take _ _ _ (by omega)]
      rfl
    · rw [if_neg h5, if_neg (by omega), pr_cons2 _ _ _ 0, pr_take _ _ _ (by omega)]
      rfl
  · intro k h1 h2
    unfold six
    rw [if_neg (by omega)]
    split <;> rw [pr_cons2, pr_take _ _ _ (by omega)]
theorem Form.digits {b t : List UInt8} {tag : UInt8} {L : Nat} (h : Form tag b t) (hL : b.length = L + 1) : nth b L = 90 ∧ ∀ i, i < L → inSet digits (nth b i) = true := by
  obtain ⟨s, rfl, hs, _⟩ := h
  have hl : s.length = L := by rw [List.length_append] at hL; simpa using hL
  constructor
  · unfold nth
    simp [List.getD_eq_getElem?_getD, ← hl]
  · intro i hi
    have := allD_nth hs (k := i) (by omega)
    unfold nth at this ⊢
    simp only [List.getD_eq_getElem?_getD] at this ⊢
    rw [List.getElem?_append_left (by omega)]
    exact this
theorem Form.len {b t : List UInt8} {tag : UInt8} (h : Form tag b t) : (tag = 23 ∧ b.length = 13) ∨ (tag = 24 ∧ b.length = 15) := by
  obtain ⟨s, rfl, hs, h1⟩ := h
  rcases h1 with ⟨a, b, _⟩ | ⟨a, b, _⟩
  · exact .inl ⟨a, by rw [List.length_append, b]; rfl⟩
  · exact .inr ⟨a, by rw [List.length_append, b]; rfl⟩
end Cal
theorem arr7_zero : (Tryd.prog.info? 67).bind (·.zero) = some (.agg #[.int .i64 0, .int .i64 0, .int .i64 0, .int .i64 0, .int .i64 0, .int .i64 0, .int .i64 0]) := by kernel_rfl
set_option maxHeartbeats 16000000 in
set_option maxRecDepth 100000 in
theorem rtime_any (tag : UInt8) (A : Option Addr) (n c : Nat) (b : List UInt8) (w : World) (hr : ReadsB w w.heap.size A n b) (hn : n ≤ 140737488355328) :
    Calls Tryd.prog 15 #[.int .u8 ((n8 tag : Nat) : Int), .slice A n c] w (TimeSaid tag b w) := by
  have Hl := hd hr.len
  by_cases hT : tag = 23
  · skip
    have h23 : (tag != 23) = false := by rw [hT]; decide
    have h24 : (tag != 24) = true := by rw [hT]; decide
    have q24 : (tag == 24) = false := by rw [hT]; decide
    have HNo := hd (fun (h : ∀ t, ¬ Cal.Form tag b t) => show ¬ ∃ t, Cal.Form tag b t from fun ⟨t, ht⟩ => h t ht)
    have HT := hd hT
    clear hT
    by_cases hl : ¬ n = 13
    · have t1 : ((n : Int) != 13) = true := by simp; omega
      have HN := hd (HNo.out (fun t ht => by have h1 := ht.len; rw [HT.out, Hl.out] at h1; rcases h1 with ⟨a, c⟩ | ⟨a, c⟩; exact hl c; cases a))
      clear hl
      go_enter Tryd.func15, Tryd.ntmps15
      go_wp2
      go_ret2
      exact TimeSaid.no HN.out (Below.refl _ _)
    replace hl := Classical.not_not.1 hl
    subst hl
    obtain ⟨ad, eA, had, hcz⟩ := hr.cell (k := 12) (by omega)
    subst eA
    obtain ⟨z, Hz⟩ : ∃ y, Hd (nth b 12 = y) := ⟨_, ⟨rfl⟩⟩
    rw [Hz.out] at hcz
    have hcz' : w.cell? ⟨ad.block, ad.off + 12, none⟩ = some (.int .u8 ((n8 z : Nat) : Int)) := hcz
    by_cases h90 : ¬ z = 90
    · have q90 : (z != 90) = true := by simpa using h90
      have HN := hd (HNo.out (fun t ht => by have h1 := (ht.digits (L := 12) Hl.out).1; rw [Hz.out] at h1; exact h90 h1))
      clear h90
      go_enter Tryd.func15, Tryd.ntmps15
      go_wp2
      go_ret2
      exact TimeSaid.no HN.out (Below.refl _ _)
    replace h90 := Classical.not_not.1 h90
    subst h90
    have HB := hd (fun (i : Nat) (hi : i < 12) => show w.cell? (ad.add i) = some (.int .u8 ((n8 (nth b i) : Nat) : Int)) by
      obtain ⟨ad', e, _, h⟩ := hr.cell (k := i) (by omega)
      obtain rfl : ad = ad' := by injection e
      exact h)
    have Had := hd had
    clear had
    go_enter Tryd.func15, Tryd.ntmps15
    go_upto_block 0 with (first | (refine wpl_alloc rfl 67 rfl _ arr7_zero ?_))
    clear hcz hcz'
    obtain ⟨g7, Hg7⟩ : ∃ y, Hd (w.heap.size = y) := ⟨_, ⟨rfl⟩⟩
    have hb0 : Blk (w.alloc (.cells #[.int .i64 0, .int .i64 0, .int .i64 0, .int .i64 0, .int .i64 0, .int .i64 0, .int .i64 0] 67)) g7 67 (Cal.arr7 b 0) := by rw [← Hg7.out]; exact Blk.nu rfl
    have hB0 : Below g7 w (w.alloc (.cells #[.int .i64 0, .int .i64 0, .int .i64 0, .int .i64 0, .int .i64 0, .int .i64 0, .int .i64 0] 67)) := by rw [← Hg7.out]; exact (Below.refl _ _).alloc (Nat.le_refl _) _
    rw [Hg7.out]
    go_wp2_with fail
    go_loopw [8] (fun s8 wr => ∃ k : Nat, k ≤ 12 ∧ s8 = .int .i64 (k : Int) ∧ Blk wr g7 67 (Cal.arr7 b k) ∧ Below g7 w wr ∧ ∀ i, i < k → inSet Cal.digits (nth b i) = true) (fun s8 _ => 12 - (intOf s8).toNat)
    case atStart => exact ⟨0, by omega, rfl, hb0, hB0, fun i hi => absurd hi (by omega)⟩
    case round =>
      clear hb0 hB0
      obtain ⟨k, hk, rfl, hbl, hbr, hdg⟩ := hrel
      have Hbr := hd (show Below w.heap.size w wr by rw [Hg7.out]; exact hbr)
      have HDg := hd hdg
      clear hdg
      by_cases hlt : k < 12
      · have t1 : (k : Int) < 12 := by omega
        have t2 : (k : Int) < 13 := by omega
        have hcx := ((Hbr.out).cell (p := ad.add k) (by rw [block_of_add]; exact Had.out)).trans (HB.out k hlt)
        obtain ⟨x, Hx⟩ : ∃ y, Hd (nth b k = y) := ⟨_, ⟨rfl⟩⟩
        rw [Hx.out] at hcx
        cases hdx : inSet Cal.digits x
        · have HN := hd (HNo.out (fun t ht => by have h1 := (ht.digits (L := 12) Hl.out).2 k hlt; rw [Hx.out, hdx] at h1; cases h1))
          have hnd := Cal.not_digit x hdx
          clear hdx hbl hbr
          by_cases h48 : x < 48
          · clear hnd
            go_wp2
            go_ret2
            exact TimeSaid.no HN.out Hbr.out
          · have h57 : 57 < x := by rcases hnd with h | h; exact absurd h h48; exact h
            clear hnd
            go_wp2
            go_ret2
            exact TimeSaid.no HN.out Hbr.out
        · obtain ⟨h48, h57⟩ := Cal.is_digit x hdx
          have h48n := ((Cal.digit_is x).1 hdx).1
          have hdl := Cal.dv_le x hdx
          obtain ⟨h, Hh⟩ : ∃ y, Hd (k / 2 = y) := ⟨_, ⟨rfl⟩⟩
          have hh7 : h < 7 := by have := Hh.out; omega
          have t3 : (k : Int) / 2 = (h : Int) := by have := Hh.out; omega
          have t4 : (h : Int) < 7 := by omega
          have hs48 := Cal.sub48 x h48n
          obtain ⟨d, Hd'⟩ : ∃ y, Hd (Cal.dv x = y) := ⟨_, ⟨rfl⟩⟩
          rw [Hd'.out] at hs48 hdl
          have hstep := hd (Cal.arr7_step b k (by omega))
          rw [Hh.out, Hx.out, Hd'.out] at hstep
          have ctw := (hbl.cell h).trans (Cal.arr7_at b k h hh7)
          have ftw := hbl.frozen h
          have htw : Cal.tw b k h ≤ 9 := by
            have e : ¬ 2 * h + 2 ≤ k := by have := Hh.out; omega
            unfold Cal.tw
            rw [if_neg e]
            split
            · exact Cal.dv_le _ (HDg.out (2 * h) (by omega))
            · omega
          obtain ⟨tv, Htv⟩ : ∃ y, Hd (Cal.tw b k h = y) := ⟨_, ⟨rfl⟩⟩
          rw [Htv.out] at ctw htw hstep
          have hdx' := hdx
          have HDX := hd hdx'
          clear h48n hdx hdx'
          go_upto_region 12 with fail
          clear h48 h57
          go_region
          have bst := (hbl.drew.set_ h (.int .i64 (10 * (tv : Int) + (d : Int))))
          rw [hstep.out] at bst
          have hbs := hbr.drew.setCell (p := ⟨g7, h, none⟩) (Nat.le_refl _) (.int .i64 (10 * (tv : Int) + (d : Int)))
          have wk : IntKind.i64.wrap ((k : Int) + 1) = (k : Int) + 1 := IntWalk.i64_in _ (by omega)
          go_wp2
          go_roundw
          case rel => exact ⟨k + 1, by omega, by go_num, bst, hbs, fun i hi => by rcases Nat.lt_or_ge i k with h1 | h1; exact HDg.out i h1; obtain rfl : i = k := by omega
                                                                                  rw [Hx.out]; exact HDX.out⟩
          case measure => simp [intOf]; omega
      · obtain rfl : k = 12 := by omega
        have tl : ¬ (12 : Int) < 12 := by omega
        obtain ⟨t, hF, hsix0, hsixk⟩ := Cal.form23 b Hl.out (by rw [Hz.out]) HDg.out
        have c0 := hbl.cell 0
        simp [Cal.arr7, Cal.tw] at c0
        have c1 := hbl.cell 1
        simp [Cal.arr7, Cal.tw] at c1
        have c2 := hbl.cell 2
        simp [Cal.arr7, Cal.tw] at c2
        have c3 := hbl.cell 3
        simp [Cal.arr7, Cal.tw] at c3
        have c4 := hbl.cell 4
        simp [Cal.arr7, Cal.tw] at c4
        have c5 := hbl.cell 5
        simp [Cal.arr7, Cal.tw] at c5
        have HF := hd (show Cal.Form tag b t by rw [HT.out]; exact hF)
        have HS := hd (Cal.six_le hF.is.2 hF.is.1)
        have hs0 := HS.out.1
        have hs1 := HS.out.2 1 (by decide) (by decide)
        have hx1 := hsixk 1 (by decide) (by decide)
        have hs2 := HS.out.2 2 (by decide) (by decide)
        have hx2 := hsixk 2 (by decide) (by decide)
        have hs3 := HS.out.2 3 (by decide) (by decide)
        have hx3 := hsixk 3 (by decide) (by decide)
        have hs4 := HS.out.2 4 (by decide) (by decide)
        have hx4 := hsixk 4 (by decide) (by decide)
        have hs5 := HS.out.2 5 (by decide) (by decide)
        have hx5 := hsixk 5 (by decide) (by decide)
        have HOK := hd (show Cal.OK t ↔ (1 ≤ Cal.six t 0 ∧ Cal.Valid (Cal.six t 0) (Cal.six t 1) (Cal.six t 2) ∧ Cal.six t 3 ≤ 23 ∧ Cal.six t 4 ≤ 59 ∧ Cal.six t 5 ≤ 59) from Iff.rfl)
        have HFI := hd (show Cal.FIN t = ((Cal.day (Cal.six t 0) (Cal.six t 1) (Cal.six t 2) : Nat) - 2180438) * 86400 + ((Cal.six t 3 : Int) * 3600 + (Cal.six t 4 : Int) * 60 + (Cal.six t 5 : Int)) from rfl)
        rw [← hx1] at c1
        obtain ⟨p1, Hp1⟩ : ∃ y, Hd (Cal.six t 1 = y) := ⟨_, ⟨rfl⟩⟩
        rw [Hp1.out] at c1 hs1 HOK HFI
        rw [← hx2] at c2
        obtain ⟨p2, Hp2⟩ : ∃ y, Hd (Cal.six t 2 = y) := ⟨_, ⟨rfl⟩⟩
        rw [Hp2.out] at c2 hs2 HOK HFI
        rw [← hx3] at c3
        obtain ⟨p3, Hp3⟩ : ∃ y, Hd (Cal.six t 3 = y) := ⟨_, ⟨rfl⟩⟩
        rw [Hp3.out] at c3 hs3 HOK HFI
        rw [← hx4] at c4
        obtain ⟨p4, Hp4⟩ : ∃ y, Hd (Cal.six t 4 = y) := ⟨_, ⟨rfl⟩⟩
        rw [Hp4.out] at c4 hs4 HOK HFI
        rw [← hx5] at c5
        obtain ⟨p5, Hp5⟩ : ∃ y, Hd (Cal.six t 5 = y) := ⟨_, ⟨rfl⟩⟩
        rw [Hp5.out] at c5 hs5 HOK HFI
        obtain ⟨y, Hy⟩ : ∃ z, Hd (Cal.six t 0 = z) := ⟨_, ⟨rfl⟩⟩
        rw [Hy.out] at hs0 HOK HFI hsix0
        obtain ⟨q0, Hq0⟩ : ∃ z, Hd (Cal.pr b 0 = z) := ⟨_, ⟨rfl⟩⟩
        rw [Hq0.out] at c0 hsix0
        have hq0 : q0 ≤ 9999 := by split at hsix0 <;> omega
        have Hsx := hd hsix0
        clear hsix0 hsixk hx1 hx2 hx3 hx4 hx5 hbl hF hbr
        go_upto_if 74 with fail
        go_cut [9] (fun s9 wx => (∃ z : Int, s9 = .int .i64 z ∧ z = (y : Int)) ∧ wx = wr)
        case first =>
          by_cases h50 : 50 ≤ q0
          · have t50 : (50 : Int) ≤ (q0 : Int) := by omega
            have ey : 1900 + (q0 : Int) = (y : Int) := by have h := Hsx.out; rw [if_pos h50] at h; omega
            go_wp2
            go_meet
            exact ⟨⟨_, rfl, rfl⟩, rfl⟩
          · have t50 : ¬ (50 : Int) ≤ (q0 : Int) := by omega
            have ey : 2000 + (q0 : Int) = (y : Int) := by have h := Hsx.out; rw [if_neg h50] at h; omega
            go_wp2
            go_meet
            exact ⟨⟨_, rfl, rfl⟩, rfl⟩
        case rest =>
          obtain ⟨⟨zz, rfl, rfl⟩, rfl⟩ := hcut
          skip
          go_upto_region 20 with fail
          have HMo := hd (fun (m : Nat) (W : World) => month_any y m (by omega) W)
          have hoB := hd Hbr.out
          obtain ⟨mo, Hmo⟩ : ∃ z, Hd (Cal.month y p1 = z) := ⟨_, ⟨rfl⟩⟩
          have HMo1 := hd (HMo.out p1)
          rw [Hmo.out] at HMo1
          by_cases k0 : y < 1
          · have tk0 : (y : Int) < 1 := by omega
            have hno := hd (show ¬ Cal.OK t from fun h => by have h1 := HOK.out.1 h; omega)
            go_quiet (fail)
            go_wp2
            go_ret2
            exact TimeSaid.bad HF.out hno.out (below_drewN hoB.out _)
          have tk0 : decide ((y : Int) < 1) = false := decide_eq_false (by omega)
          by_cases k1 : p1 < 1
          · have tk1 : (p1 : Int) < 1 := by omega
            have hno := hd (show ¬ Cal.OK t from fun h => by have h1 := HOK.out.1 h; have h2 := h1.2.1.1; omega)
            go_quiet (fail)
            go_wp2
            go_ret2
            exact TimeSaid.bad HF.out hno.out (below_drewN hoB.out _)
          have tk1 : decide ((p1 : Int) < 1) = false := decide_eq_false (by omega)
          by_cases k2 : 12 < p1
          · have tk2 : (12 : Int) < (p1 : Int) := by omega
            have hno := hd (show ¬ Cal.OK t from fun h => by have h1 := HOK.out.1 h; have h2 := h1.2.1.2.1; omega)
            go_quiet (fail)
            go_wp2
            go_ret2
            exact TimeSaid.bad HF.out hno.out (below_drewN hoB.out _)
          have tk2 : decide ((12 : Int) < (p1 : Int)) = false := decide_eq_false (by omega)
          by_cases k3 : p2 < 1
          · have tk3 : (p2 : Int) < 1 := by omega
            have hno := hd (show ¬ Cal.OK t from fun h => by have h1 := HOK.out.1 h; have h2 := h1.2.1.2.2.1; omega)
            go_quiet (fail)
            go_wp2
            go_ret2
            exact TimeSaid.bad HF.out hno.out (below_drewN hoB.out _)
          have tk3 : decide ((p2 : Int) < 1) = false := decide_eq_false (by omega)
          by_cases k4 : mo < p2
          · have tk4 : (mo : Int) < (p2 : Int) := by omega
            have hno := hd (show ¬ Cal.OK t from fun h => by have h1 := HOK.out.1 h; have h2 := h1.2.1.2.2.2; have := Hmo.out; omega)
            go_quiet ((go_at_call 29; refine Calls.quiet_of_same (HMo1.out _)))
            go_wp2
            go_ret2
            exact TimeSaid.bad HF.out hno.out (below_drewN hoB.out _)
          have tk4 : decide ((mo : Int) < (p2 : Int)) = false := decide_eq_false (by omega)
          by_cases k5 : 23 < p3
          · have tk5 : (23 : Int) < (p3 : Int) := by omega
            have hno := hd (show ¬ Cal.OK t from fun h => by have h1 := HOK.out.1 h; have h2 := h1.2.2.1; omega)
            go_quiet ((go_at_call 29; refine Calls.quiet_of_same (HMo1.out _)))
            go_wp2
            go_ret2
            exact TimeSaid.bad HF.out hno.out (below_drewN hoB.out _)
          have tk5 : decide ((23 : Int) < (p3 : Int)) = false := decide_eq_false (by omega)
          by_cases k6 : 59 < p4
          · have tk6 : (59 : Int) < (p4 : Int) := by omega
            have hno := hd (show ¬ Cal.OK t from fun h => by have h1 := HOK.out.1 h; have h2 := h1.2.2.2.1; omega)
            go_quiet ((go_at_call 29; refine Calls.quiet_of_same (HMo1.out _)))
            go_wp2
            go_ret2
            exact TimeSaid.bad HF.out hno.out (below_drewN hoB.out _)
          have tk6 : decide ((59 : Int) < (p4 : Int)) = false := decide_eq_false (by omega)
          by_cases k7 : 59 < p5
          · have tk7 : (59 : Int) < (p5 : Int) := by omega
            have hno := hd (show ¬ Cal.OK t from fun h => by have h1 := HOK.out.1 h; have h2 := h1.2.2.2.2; omega)
            go_quiet ((go_at_call 29; refine Calls.quiet_of_same (HMo1.out _)))
            go_wp2
            go_ret2
            exact TimeSaid.bad HF.out hno.out (below_drewN hoB.out _)
          have tk7 : decide ((59 : Int) < (p5 : Int)) = false := decide_eq_false (by omega)
          have hyes := hd (show Cal.OK t from HOK.out.2 ⟨by omega, ⟨by omega, by omega, by omega, by have := Hmo.out; omega⟩, by omega, by omega, by omega⟩)
          clear HOK
          go_quiet ((go_at_call 29; refine Calls.quiet_of_same (HMo1.out _)))
          have hoq := hd (below_drewN hoB.out nq)
          have e1 : (wc.drewN nq).cell? ⟨g7, 1, none⟩ = some (.int .i64 (p1 : Int)) := c1
          clear c1
          have e2 : (wc.drewN nq).cell? ⟨g7, 2, none⟩ = some (.int .i64 (p2 : Int)) := c2
          clear c2
          have e3 : (wc.drewN nq).cell? ⟨g7, 3, none⟩ = some (.int .i64 (p3 : Int)) := c3
          clear c3
          have e4 : (wc.drewN nq).cell? ⟨g7, 4, none⟩ = some (.int .i64 (p4 : Int)) := c4
          clear c4
          have e5 : (wc.drewN nq).cell? ⟨g7, 5, none⟩ = some (.int .i64 (p5 : Int)) := c5
          clear c5
          obtain ⟨wq, Hwq⟩ : ∃ z, Hd (wc.drewN nq = z) := ⟨_, ⟨rfl⟩⟩
          rw [Hwq.out] at hoq ⊢
          rw [Hwq.out] at e1
          rw [Hwq.out] at e2
          rw [Hwq.out] at e3
          rw [Hwq.out] at e4
          rw [Hwq.out] at e5
          have HDa := hd (days_any y (by omega) wq)
          have HCl := hd (fun (i : Nat) (hi : i ≤ 12) => show Cal.cum y i ≤ 366 by
            have h1 := Cal.cum_mono y (12 - i) i
            rw [show i + (12 - i) = 12 by omega] at h1
            have h2 := (Cal.cum_is y).2.2.2.2.2.2.2.2.2.2.2.2
            split at h2 <;> omega)
          have HDy := hd (Cal.day_is y p1 p2 (by omega) (by omega) (by omega))
          have hJl := Cal.jan_le y (by omega)
          obtain ⟨J, HJ⟩ : ∃ z, Hd (Cal.jan y = z) := ⟨_, ⟨rfl⟩⟩
          rw [HJ.out] at HDa HDy hJl
          have hJi : (J : Int) ≤ 9000000 := by omega
          clear hJl tk0 tk1 tk2 tk3 tk4 tk5 tk6 tk7
          go_wp2_with (first | (go_at_call 30; refine HDa.out.mono ?_; rintro e w5 ⟨rfl, e5⟩; rw [e5]; clear e5 w5))
          clear HDa
          go_loopw [11, 12] (fun s11 s12 wr => ∃ m : Nat, 1 ≤ m ∧ m ≤ p1 ∧ s12 = .int .i64 (m : Int) ∧ s11 = .int .i64 ((J : Int) - 2180438 + (Cal.cum y (m - 1) : Int)) ∧ wr = wq) (fun _ s12 _ => p1 - (intOf s12).toNat)
          case atStart => exact ⟨1, by omega, by omega, rfl, congrArg (Value.int .i64) (by simp [Cal.cum]), rfl⟩
          case round =>
            obtain ⟨m, hm1, hm2, rfl, rfl, rfl⟩ := hrel
            have hcl := HCl.out (m - 1) (by omega)
            by_cases hlm : m < p1
            · have tm : (m : Int) < (p1 : Int) := by omega
              have HMm := hd (HMo.out m wr)
              have hcs := hd (show Cal.cum y (m + 1 - 1) = Cal.cum y (m - 1) + Cal.month y m by
                obtain ⟨j, rfl⟩ : ∃ j, m = j + 1 := ⟨m - 1, by omega⟩
                rfl)
              have hml : Cal.month y m ≤ 31 := by unfold Cal.month; split; omega; split; split <;> omega; omega
              obtain ⟨C, HC⟩ : ∃ z, Hd (Cal.cum y (m - 1) = z) := ⟨_, ⟨rfl⟩⟩
              obtain ⟨ml, Hml⟩ : ∃ z, Hd (Cal.month y m = z) := ⟨_, ⟨rfl⟩⟩
              rw [HC.out] at hcl hcs ⊢
              rw [Hml.out] at HMm hml hcs
              have wm : IntKind.i64.wrap ((m : Int) + 1) = (m : Int) + 1 := IntWalk.i64_in _ (by omega)
              go_wp2_with (first | (go_at_call 29; refine HMm.out.mono ?_; rintro e w5 ⟨rfl, e5⟩; rw [e5]; clear e5 w5))
              go_roundw
              case rel => exact ⟨m + 1, by omega, by omega, by go_num, congrArg (Value.int .i64) (by rw [hcs.out]; omega), trivial⟩
              case measure => simp [intOf]; omega
            · obtain rfl : m = p1 := by omega
              have tm : ¬ (m : Int) < (m : Int) := by omega
              obtain ⟨C, HC⟩ : ∃ z, Hd (Cal.cum y (m - 1) = z) := ⟨_, ⟨rfl⟩⟩
              rw [HC.out] at hcl HDy ⊢
              go_upto_region 28 with fail
              go_quiet (fail)
              go_wp2
              go_ret2
              have hg := TimeSaid.good HF.out hyes.out (below_drewN hoq.out nq)
              rw [HFI.out, HDy.out] at hg
              have ee : (((J + C + p2 - 1 : Nat) : Int) - 2180438) * 86400 + ((p3 : Int) * 3600 + (p4 : Int) * 60 + (p5 : Int)) = ((J : Int) - 2180438 + (C : Int) + (p2 : Int) - 1) * 86400 + ((p3 : Int) * 3600 + (p4 : Int) * 60 + (p5 : Int)) := by omega
              rw [ee] at hg
              exact hg
  by_cases hT2 : tag = 24
  · have hT := hT2
    clear hT2
    have h23 : (tag != 23) = true := by rw [hT]; decide
    have h24 : (tag != 24) = false := by rw [hT]; decide
    have q24 : (tag == 24) = true := by rw [hT]; decide
    have HNo := hd (fun (h : ∀ t, ¬ Cal.Form tag b t) => show ¬ ∃ t, Cal.Form tag b t from fun ⟨t, ht⟩ => h t ht)
    have HT := hd hT
    clear hT
    by_cases hl : ¬ n = 15
    · have t1 : ((n : Int) != 15) = true := by simp; omega
      have HN := hd (HNo.out (fun t ht => by have h1 := ht.len; rw [HT.out, Hl.out] at h1; rcases h1 with ⟨a, c⟩ | ⟨a, c⟩; cases a; exact hl c))
      clear hl
      go_enter Tryd.func15, Tryd.ntmps15
      go_wp2
      go_ret2
      exact TimeSaid.no HN.out (Below.refl _ _)
    replace hl := Classical.not_not.1 hl
    subst hl
    obtain ⟨ad, eA, had, hcz⟩ := hr.cell (k := 14) (by omega)
    subst eA
    obtain ⟨z, Hz⟩ : ∃ y, Hd (nth b 14 = y) := ⟨_, ⟨rfl⟩⟩
    rw [Hz.out] at hcz
    have hcz' : w.cell? ⟨ad.block, ad.off + 14, none⟩ = some (.int .u8 ((n8 z : Nat) : Int)) := hcz
    by_cases h90 : ¬ z = 90
    · have q90 : (z != 90) = true := by simpa using h90
      have HN := hd (HNo.out (fun t ht => by have h1 := (ht.digits (L := 14) Hl.out).1; rw [Hz.out] at h1; exact h90 h1))
      clear h90
      go_enter Tryd.func15, Tryd.ntmps15
      go_wp2
      go_ret2
      exact TimeSaid.no HN.out (Below.refl _ _)
    replace h90 := Classical.not_not.1 h90
    subst h90
    have HB := hd (fun (i : Nat) (hi : i < 14) => show w.cell? (ad.add i) = some (.int .u8 ((n8 (nth b i) : Nat) : Int)) by
      obtain ⟨ad', e, _, h⟩ := hr.cell (k := i) (by omega)
      obtain rfl : ad = ad' := by injection e
      exact h)
    have Had := hd had
    clear had
    go_enter Tryd.func15, Tryd.ntmps15
    go_upto_block 0 with (first | (refine wpl_alloc rfl 67 rfl _ arr7_zero ?_))
    clear hcz hcz'
    obtain ⟨g7, Hg7⟩ : ∃ y, Hd (w.heap.size = y) := ⟨_, ⟨rfl⟩⟩
    have hb0 : Blk (w.alloc (.cells #[.int .i64 0, .int .i64 0, .int .i64 0, .int .i64 0, .int .i64 0, .int .i64 0, .int .i64 0] 67)) g7 67 (Cal.arr7 b 0) := by rw [← Hg7.out]; exact Blk.nu rfl
    have hB0 : Below g7 w (w.alloc (.cells #[.int .i64 0, .int .i64 0, .int .i64 0, .int .i64 0, .int .i64 0, .int .i64 0, .int .i64 0] 67)) := by rw [← Hg7.out]; exact (Below.refl _ _).alloc (Nat.le_refl _) _
    rw [Hg7.out]
    go_wp2_with fail
    go_loopw [8] (fun s8 wr => ∃ k : Nat, k ≤ 14 ∧ s8 = .int .i64 (k : Int) ∧ Blk wr g7 67 (Cal.arr7 b k) ∧ Below g7 w wr ∧ ∀ i, i < k → inSet Cal.digits (nth b i) = true) (fun s8 _ => 14 - (intOf s8).toNat)
    case atStart => exact ⟨0, by omega, rfl, hb0, hB0, fun i hi => absurd hi (by omega)⟩
    case round =>
      clear hb0 hB0
      obtain ⟨k, hk, rfl, hbl, hbr, hdg⟩ := hrel
      have Hbr := hd (show Below w.heap.size w wr by rw [Hg7.out]; exact hbr)
      have HDg := hd hdg
      clear hdg
      by_cases hlt : k < 14
      · have t1 : (k : Int) < 14 := by omega
        have t2 : (k : Int) < 15 := by omega
        have hcx := ((Hbr.out).cell (p := ad.add k) (by rw [block_of_add]; exact Had.out)).trans (HB.out k hlt)
        obtain ⟨x, Hx⟩ : ∃ y, Hd (nth b k = y) := ⟨_, ⟨rfl⟩⟩
        rw [Hx.out] at hcx
        cases hdx : inSet Cal.digits x
        · have HN := hd (HNo.out (fun t ht => by have h1 := (ht.digits (L := 14) Hl.out).2 k hlt; rw [Hx.out, hdx] at h1; cases h1))
          have hnd := Cal.not_digit x hdx
          clear hdx hbl hbr
          by_cases h48 : x < 48
          · clear hnd
            go_wp2
            go_ret2
            exact TimeSaid.no HN.out Hbr.out
          · have h57 : 57 < x := by rcases hnd with h | h; exact absurd h h48; exact h
            clear hnd
            go_wp2
            go_ret2
            exact TimeSaid.no HN.out Hbr.out
        · obtain ⟨h48, h57⟩ := Cal.is_digit x hdx
          have h48n := ((Cal.digit_is x).1 hdx).1
          have hdl := Cal.dv_le x hdx
          obtain ⟨h, Hh⟩ : ∃ y, Hd (k / 2 = y) := ⟨_, ⟨rfl⟩⟩
          have hh7 : h < 7 := by have := Hh.out; omega
          have t3 : (k : Int) / 2 = (h : Int) := by have := Hh.out; omega
          have t4 : (h : Int) < 7 := by omega
          have hs48 := Cal.sub48 x h48n
          obtain ⟨d, Hd'⟩ : ∃ y, Hd (Cal.dv x = y) := ⟨_, ⟨rfl⟩⟩
          rw [Hd'.out] at hs48 hdl
          have hstep := hd (Cal.arr7_step b k (by omega))
          rw [Hh.out, Hx.out, Hd'.out] at hstep
          have ctw := (hbl.cell h).trans (Cal.arr7_at b k h hh7)
          have ftw := hbl.frozen h
          have htw : Cal.tw b k h ≤ 9 := by
            have e : ¬ 2 * h + 2 ≤ k := by have := Hh.out; omega
            unfold Cal.tw
            rw [if_neg e]
            split
            · exact Cal.dv_le _ (HDg.out (2 * h) (by omega))
            · omega
          obtain ⟨tv, Htv⟩ : ∃ y, Hd (Cal.tw b k h = y) := ⟨_, ⟨rfl⟩⟩
          rw [Htv.out] at ctw htw hstep
          have hdx' := hdx
          have HDX := hd hdx'
          clear h48n hdx hdx'
          go_upto_region 12 with fail
          clear h48 h57
          go_region
          have bst := (hbl.drew.set_ h (.int .i64 (10 * (tv : Int) + (d : Int))))
          rw [hstep.out] at bst
          have hbs := hbr.drew.setCell (p := ⟨g7, h, none⟩) (Nat.le_refl _) (.int .i64 (10 * (tv : Int) + (d : Int)))
          have wk : IntKind.i64.wrap ((k : Int) + 1) = (k : Int) + 1 := IntWalk.i64_in _ (by omega)
          go_wp2
          go_roundw
          case rel => exact ⟨k + 1, by omega, by go_num, bst, hbs, fun i hi => by rcases Nat.lt_or_ge i k with h1 | h1; exact HDg.out i h1; obtain rfl : i = k := by omega
                                                                                  rw [Hx.out]; exact HDX.out⟩
          case measure => simp [intOf]; omega
      · obtain rfl : k = 14 := by omega
        have tl : ¬ (14 : Int) < 14 := by omega
        obtain ⟨t, hF, hsix0, hsixk⟩ := Cal.form24 b Hl.out (by rw [Hz.out]) HDg.out
        have c0 := hbl.cell 0
        simp [Cal.arr7, Cal.tw] at c0
        have c1 := hbl.cell 1
        simp [Cal.arr7, Cal.tw] at c1
        have c2 := hbl.cell 2
        simp [Cal.arr7, Cal.tw] at c2
        have c3 := hbl.cell 3
        simp [Cal.arr7, Cal.tw] at c3
        have c4 := hbl.cell 4
        simp [Cal.arr7, Cal.tw] at c4
        have c5 := hbl.cell 5
        simp [Cal.arr7, Cal.tw] at c5
        have c6 := hbl.cell 6
        simp [Cal.arr7, Cal.tw] at c6
        have HF := hd (show Cal.Form tag b t by rw [HT.out]; exact hF)
        have HS := hd (Cal.six_le hF.is.2 hF.is.1)
        have hs0 := HS.out.1
        have hs1 := HS.out.2 1 (by decide) (by decide)
        have hx1 := hsixk 1 (by decide) (by decide)
        have hs2 := HS.out.2 2 (by decide) (by decide)
        have hx2 := hsixk 2 (by decide) (by decide)
        have hs3 := HS.out.2 3 (by decide) (by decide)
        have hx3 := hsixk 3 (by decide) (by decide)
        have hs4 := HS.out.2 4 (by decide) (by decide)
        have hx4 := hsixk 4 (by decide) (by decide)
        have hs5 := HS.out.2 5 (by decide) (by decide)
        have hx5 := hsixk 5 (by decide) (by decide)
        have HOK := hd (show Cal.OK t ↔ (1 ≤ Cal.six t 0 ∧ Cal.Valid (Cal.six t 0) (Cal.six t 1) (Cal.six t 2) ∧ Cal.six t 3 ≤ 23 ∧ Cal.six t 4 ≤ 59 ∧ Cal.six t 5 ≤ 59) from Iff.rfl)
        have HFI := hd (show Cal.FIN t = ((Cal.day (Cal.six t 0) (Cal.six t 1) (Cal.six t 2) : Nat) - 2180438) * 86400 + ((Cal.six t 3 : Int) * 3600 + (Cal.six t 4 : Int) * 60 + (Cal.six t 5 : Int)) from rfl)
        rw [← hx1] at c2
        obtain ⟨p1, Hp1⟩ : ∃ y, Hd (Cal.six t 1 = y) := ⟨_, ⟨rfl⟩⟩
        rw [Hp1.out] at c2 hs1 HOK HFI
        rw [← hx2] at c3
        obtain ⟨p2, Hp2⟩ : ∃ y, Hd (Cal.six t 2 = y) := ⟨_, ⟨rfl⟩⟩
        rw [Hp2.out] at c3 hs2 HOK HFI
        rw [← hx3] at c4
        obtain ⟨p3, Hp3⟩ : ∃ y, Hd (Cal.six t 3 = y) := ⟨_, ⟨rfl⟩⟩
        rw [Hp3.out] at c4 hs3 HOK HFI
        rw [← hx4] at c5
        obtain ⟨p4, Hp4⟩ : ∃ y, Hd (Cal.six t 4 = y) := ⟨_, ⟨rfl⟩⟩
        rw [Hp4.out] at c5 hs4 HOK HFI
        rw [← hx5] at c6
        obtain ⟨p5, Hp5⟩ : ∃ y, Hd (Cal.six t 5 = y) := ⟨_, ⟨rfl⟩⟩
        rw [Hp5.out] at c6 hs5 HOK HFI
        obtain ⟨y, Hy⟩ : ∃ z, Hd (Cal.six t 0 = z) := ⟨_, ⟨rfl⟩⟩
        rw [Hy.out] at hs0 HOK HFI hsix0
        obtain ⟨q0, Hq0⟩ : ∃ z, Hd (Cal.pr b 0 = z) := ⟨_, ⟨rfl⟩⟩
        rw [Hq0.out] at c0 hsix0
        obtain ⟨q1, Hq1⟩ : ∃ z, Hd (Cal.pr b 1 = z) := ⟨_, ⟨rfl⟩⟩
        rw [Hq1.out] at c1 hsix0
        have hq0 : q0 ≤ 99 := by omega
        have hq1 : q1 ≤ 9999 := by omega
        have Hsx := hd hsix0
        clear hsix0 hsixk hx1 hx2 hx3 hx4 hx5 hbl hF hbr
        go_upto_if 74 with fail
        go_cut [9] (fun s9 wx => (∃ z : Int, s9 = .int .i64 z) ∧ wx = wr)
        case first =>
          by_cases h50 : 50 ≤ q0
          · have t50 : (50 : Int) ≤ (q0 : Int) := by omega
            skip
            go_wp2
            go_meet
            exact ⟨⟨_, rfl⟩, rfl⟩
          · have t50 : ¬ (50 : Int) ≤ (q0 : Int) := by omega
            skip
            go_wp2
            go_meet
            exact ⟨⟨_, rfl⟩, rfl⟩
        case rest =>
          obtain ⟨⟨zz, rfl⟩, rfl⟩ := hcut
          have ey : 100 * (q0 : Int) + (q1 : Int) = (y : Int) := by have h := Hsx.out; omega
          go_upto_region 20 with fail
          have HMo := hd (fun (m : Nat) (W : World) => month_any y m (by omega) W)
          have hoB := hd Hbr.out
          obtain ⟨mo, Hmo⟩ : ∃ z, Hd (Cal.month y p1 = z) := ⟨_, ⟨rfl⟩⟩
          have HMo1 := hd (HMo.out p1)
          rw [Hmo.out] at HMo1
          by_cases k0 : y < 1
          · have tk0 : (y : Int) < 1 := by omega
            have hno := hd (show ¬ Cal.OK t from fun h => by have h1 := HOK.out.1 h; omega)
            go_quiet (fail)
            go_wp2
            go_ret2
            exact TimeSaid.bad HF.out hno.out (below_drewN hoB.out _)
          have tk0 : decide ((y : Int) < 1) = false := decide_eq_false (by omega)
          by_cases k1 : p1 < 1
          · have tk1 : (p1 : Int) < 1 := by omega
            have hno := hd (show ¬ Cal.OK t from fun h => by have h1 := HOK.out.1 h; have h2 := h1.2.1.1; omega)
            go_quiet (fail)
            go_wp2
            go_ret2
            exact TimeSaid.bad HF.out hno.out (below_drewN hoB.out _)
          have tk1 : decide ((p1 : Int) < 1) = false := decide_eq_false (by omega)
          by_cases k2 : 12 < p1
          · have tk2 : (12 : Int) < (p1 : Int) := by omega
            have hno := hd (show ¬ Cal.OK t from fun h => by have h1 := HOK.out.1 h; have h2 := h1.2.1.2.1; omega)
            go_quiet (fail)
            go_wp2
            go_ret2
            exact TimeSaid.bad HF.out hno.out (below_drewN hoB.out _)
          have tk2 : decide ((12 : Int) < (p1 : Int)) = false := decide_eq_false (by omega)
          by_cases k3 : p2 < 1
          · have tk3 : (p2 : Int) < 1 := by omega
            have hno := hd (show ¬ Cal.OK t from fun h => by have h1 := HOK.out.1 h; have h2 := h1.2.1.2.2.1; omega)
            go_quiet (fail)
            go_wp2
            go_ret2
            exact TimeSaid.bad HF.out hno.out (below_drewN hoB.out _)
          have tk3 : decide ((p2 : Int) < 1) = false := decide_eq_false (by omega)
          by_cases k4 : mo < p2
          · have tk4 : (mo : Int) < (p2 : Int) := by omega
            have hno := hd (show ¬ Cal.OK t from fun h => by have h1 := HOK.out.1 h; have h2 := h1.2.1.2.2.2; have := Hmo.out; omega)
            go_quiet ((go_at_call 29; refine Calls.quiet_of_same (HMo1.out _)))
            go_wp2
            go_ret2
            exact TimeSaid.bad HF.out hno.out (below_drewN hoB.out _)
          have tk4 : decide ((mo : Int) < (p2 : Int)) = false := decide_eq_false (by omega)
          by_cases k5 : 23 < p3
          · have tk5 : (23 : Int) < (p3 : Int) := by omega
            have hno := hd (show ¬ Cal.OK t from fun h => by have h1 := HOK.out.1 h; have h2 := h1.2.2.1; omega)
            go_quiet ((go_at_call 29; refine Calls.quiet_of_same (HMo1.out _)))
            go_wp2
            go_ret2
            exact TimeSaid.bad HF.out hno.out (below_drewN hoB.out _)
          have tk5 : decide ((23 : Int) < (p3 : Int)) = false := decide_eq_false (by omega)
          by_cases k6 : 59 < p4
          · have tk6 : (59 : Int) < (p4 : Int) := by omega
            have hno := hd (show ¬ Cal.OK t from fun h => by have h1 := HOK.out.1 h; have h2 := h1.2.2.2.1; omega)
            go_quiet ((go_at_call 29; refine Calls.quiet_of_same (HMo1.out _)))
            go_wp2
            go_ret2
            exact TimeSaid.bad HF.out hno.out (below_drewN hoB.out _)
          have tk6 : decide ((59 : Int) < (p4 : Int)) = false := decide_eq_false (by omega)
          by_cases k7 : 59 < p5
          · have tk7 : (59 : Int) < (p5 : Int) := by omega
            have hno := hd (show ¬ Cal.OK t from fun h => by have h1 := HOK.out.1 h; have h2 := h1.2.2.2.2; omega)
            go_quiet ((go_at_call 29; refine Calls.quiet_of_same (HMo1.out _)))
            go_wp2
            go_ret2
            exact TimeSaid.bad HF.out hno.out (below_drewN hoB.out _)
          have tk7 : decide ((59 : Int) < (p5 : Int)) = false := decide_eq_false (by omega)
          have hyes := hd (show Cal.OK t from HOK.out.2 ⟨by omega, ⟨by omega, by omega, by omega, by have := Hmo.out; omega⟩, by omega, by omega, by omega⟩)
          clear HOK
          go_quiet ((go_at_call 29; refine Calls.quiet_of_same (HMo1.out _)))
          have hoq := hd (below_drewN hoB.out nq)
          have e2 : (wc.drewN nq).cell? ⟨g7, 2, none⟩ = some (.int .i64 (p1 : Int)) := c2
          clear c2
          have e3 : (wc.drewN nq).cell? ⟨g7, 3, none⟩ = some (.int .i64 (p2 : Int)) := c3
          clear c3
          have e4 : (wc.drewN nq).cell? ⟨g7, 4, none⟩ = some (.int .i64 (p3 : Int)) := c4
          clear c4
          have e5 : (wc.drewN nq).cell? ⟨g7, 5, none⟩ = some (.int .i64 (p4 : Int)) := c5
          clear c5
          have e6 : (wc.drewN nq).cell? ⟨g7, 6, none⟩ = some (.int .i64 (p5 : Int)) := c6
          clear c6
          obtain ⟨wq, Hwq⟩ : ∃ z, Hd (wc.drewN nq = z) := ⟨_, ⟨rfl⟩⟩
          rw [Hwq.out] at hoq ⊢
          rw [Hwq.out] at e2
          rw [Hwq.out] at e3
          rw [Hwq.out] at e4
          rw [Hwq.out] at e5
          rw [Hwq.out] at e6
          have HDa := hd (days_any y (by omega) wq)
          have HCl := hd (fun (i : Nat) (hi : i ≤ 12) => show Cal.cum y i ≤ 366 by
            have h1 := Cal.cum_mono y (12 - i) i
            rw [show i + (12 - i) = 12 by omega] at h1
            have h2 := (Cal.cum_is y).2.2.2.2.2.2.2.2.2.2.2.2
            split at h2 <;> omega)
          have HDy := hd (Cal.day_is y p1 p2 (by omega) (by omega) (by omega))
          have hJl := Cal.jan_le y (by omega)
          obtain ⟨J, HJ⟩ : ∃ z, Hd (Cal.jan y = z) := ⟨_, ⟨rfl⟩⟩
          rw [HJ.out] at HDa HDy hJl
          have hJi : (J : Int) ≤ 9000000 := by omega
          clear hJl tk0 tk1 tk2 tk3 tk4 tk5 tk6 tk7
          go_wp2_with (first | (go_at_call 30; refine HDa.out.mono ?_; rintro e w5 ⟨rfl, e5⟩; rw [e5]; clear e5 w5))
          clear HDa
          go_loopw [11, 12] (fun s11 s12 wr => ∃ m : Nat, 1 ≤ m ∧ m ≤ p1 ∧ s12 = .int .i64 (m : Int) ∧ s11 = .int .i64 ((J : Int) - 2180438 + (Cal.cum y (m - 1) : Int)) ∧ wr = wq) (fun _ s12 _ => p1 - (intOf s12).toNat)
          case atStart => exact ⟨1, by omega, by omega, rfl, congrArg (Value.int .i64) (by simp [Cal.cum]), rfl⟩
          case round =>
            obtain ⟨m, hm1, hm2, rfl, rfl, rfl⟩ := hrel
            have hcl := HCl.out (m - 1) (by omega)
            by_cases hlm : m < p1
            · have tm : (m : Int) < (p1 : Int) := by omega
              have HMm := hd (HMo.out m wr)
              have hcs := hd (show Cal.cum y (m + 1 - 1) = Cal.cum y (m - 1) + Cal.month y m by
                obtain ⟨j, rfl⟩ : ∃ j, m = j + 1 := ⟨m - 1, by omega⟩
                rfl)
              have hml : Cal.month y m ≤ 31 := by unfold Cal.month; split; omega; split; split <;> omega; omega
              obtain ⟨C, HC⟩ : ∃ z, Hd (Cal.cum y (m - 1) = z) := ⟨_, ⟨rfl⟩⟩
              obtain ⟨ml, Hml⟩ : ∃ z, Hd (Cal.month y m = z) := ⟨_, ⟨rfl⟩⟩
              rw [HC.out] at hcl hcs ⊢
              rw [Hml.out] at HMm hml hcs
              have wm : IntKind.i64.wrap ((m : Int) + 1) = (m : Int) + 1 := IntWalk.i64_in _ (by omega)
              go_wp2_with (first | (go_at_call 29; refine HMm.out.mono ?_; rintro e w5 ⟨rfl, e5⟩; rw [e5]; clear e5 w5))
              go_roundw
              case rel => exact ⟨m + 1, by omega, by omega, by go_num, congrArg (Value.int .i64) (by rw [hcs.out]; omega), trivial⟩
              case measure => simp [intOf]; omega
            · obtain rfl : m = p1 := by omega
              have tm : ¬ (m : Int) < (m : Int) := by omega
              obtain ⟨C, HC⟩ : ∃ z, Hd (Cal.cum y (m - 1) = z) := ⟨_, ⟨rfl⟩⟩
              rw [HC.out] at hcl HDy ⊢
              go_upto_region 28 with fail
              go_quiet (fail)
              go_wp2
              go_ret2
              have hg := TimeSaid.good HF.out hyes.out (below_drewN hoq.out nq)
              rw [HFI.out, HDy.out] at hg
              have ee : (((J + C + p2 - 1 : Nat) : Int) - 2180438) * 86400 + ((p3 : Int) * 3600 + (p4 : Int) * 60 + (p5 : Int)) = ((J : Int) - 2180438 + (C : Int) + (p2 : Int) - 1) * 86400 + ((p3 : Int) * 3600 + (p4 : Int) * 60 + (p5 : Int)) := by omega
              rw [ee] at hg
              exact hg
  · have h23 : (tag != 23) = true := by simpa using hT
    have h24 : (tag != 24) = true := by simpa using hT2
    have q24 : (tag == 24) = false := by simpa using hT2
    have HN := hd (show ¬ ∃ t, Cal.Form tag b t from fun ⟨t, ht⟩ => by rcases ht.len with ⟨a, _⟩ | ⟨a, _⟩; exact hT a; exact hT2 a)
    clear hT hT2
    go_enter Tryd.func15, Tryd.ntmps15
    go_wp2
    go_ret2
    exact TimeSaid.no HN.out (Below.refl _ _)
end Go.Proofs.YthkggeohdclffaaDoor
