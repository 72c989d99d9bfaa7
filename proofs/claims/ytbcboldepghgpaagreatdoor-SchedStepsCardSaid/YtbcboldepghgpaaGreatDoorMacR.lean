/-
  The reference's codes under a key, and what is made of them.
-/
import Derived.Test.YtbcboldepghgpaaGreatDoorShaO
import Derived.Test.YtbcboldepghgpaaGreatDoorMacC
import Derived.Test.YtbcboldepghgpaaGreatDoorZeros
set_option linter.unusedVariables false
set_option linter.unusedSimpArgs false
set_option maxRecDepth 100000
namespace Go.Proofs.YtbcboldepghgpaaGreatDoor
open Go.RowKit
/-- A pad, so far as it is written. -/
def Mac.padz (key : List UInt8) (x : UInt8) (n k : Nat) : List UInt8 := Mac.padb key x k ++ List.replicate (n - k) 0
theorem Mac.padz_len (key : List UInt8) (x : UInt8) (n k : Nat) (h : k ≤ n) : (Mac.padz key x n k).length = n := by rw [Mac.padz, List.length_append, Mac.padb_len, List.length_replicate]; omega
theorem Mac.padz_set (key : List UInt8) (x : UInt8) (n k : Nat) (h : k < n) : (Mac.padz key x n k).set k (nth key k ^^^ x) = Mac.padz key x n (k + 1) := by
  unfold Mac.padz
  rw [List.set_append_right _ _ (by rw [Mac.padb_len]; exact Nat.le_refl _), Mac.padb_len, Nat.sub_self, show n - k = (n - (k + 1)) + 1 by omega, List.replicate_succ, List.set_cons_zero, Mac.padb, List.append_assoc]
  rfl
theorem Mac.padz_all (key : List UInt8) (x : UInt8) (n : Nat) : Mac.padz key x n n = Mac.padb key x n := by rw [Mac.padz, Nat.sub_self, List.replicate_zero, List.append_nil]
theorem OwnB.store {w : World} {B g n cap : Nat} {l : List UInt8} (h : OwnB w B (.slice (some ⟨g, 0, none⟩) n cap) l) (i : Nat) (x : UInt8) : OwnB (w.setCell ⟨g, i, none⟩ (.int .u8 ((n8 x : Nat) : Int))) B (.slice (some ⟨g, 0, none⟩) n cap) (l.set i x) := by
  have hn := h.reads_any.1
  subst hn
  exact h.set_ i x
theorem OwnB.at_ {w : World} {B g n cap : Nat} {l : List UInt8} (h : OwnB w B (.slice (some ⟨g, 0, none⟩) n cap) l) (i : Nat) (hi : i < n) : w.cell? ⟨g, i, none⟩ = some (.int .u8 ((n8 (nth l i) : Nat) : Int)) ∧ w.frozen? ⟨g, i, none⟩ = false := by
  have hn := h.reads_any.1
  subst hn
  exact ⟨h.cell i hi, h.frozen i⟩

set_option maxHeartbeats 4000000 in
set_option maxRecDepth 100000 in
theorem rmac_valid (h : Int) (hh : h = 1 ∨ h = 2 ∨ h = 3) (A : Option Addr) (n c : Nat) (key : List UInt8) (D : Option Addr) (m d : Nat) (b : List UInt8) (w : World) (hr : ReadsB w w.heap.size A n key) (hn : n ≤ 140737488353000) (hb : ReadsB w w.heap.size D m b) (hm : m ≤ 140737488353000) :
    Calls Tryz.prog 37 #[.int .i64 h, .slice A n c, .slice D m d] w fun e w' => ∃ v, e = .returned v ∧ OwnB w' w.heap.size v (Mac.code h key b) ∧ Below w.heap.size w w' := by
  have hlen := hr.len
  have hbl := Mac.blockLen_le h
  have hsl := Mac.size_le h
  have hpos : 0 < Sha.blockLen h := Nat.lt_of_lt_of_le (Mac.size_pos hh) (by unfold Sha.size Sha.blockLen; (repeat' split) <;> omega)
  obtain ⟨bl, Hbl⟩ : ∃ x, Hd (Sha.blockLen h = x) := ⟨_, ⟨rfl⟩⟩
  rw [Hbl.out] at hbl hpos
  have hb0 : ¬ (bl : Int) = 0 := by omega
  obtain ⟨K, HK⟩ : ∃ x, Hd (Mac.keyOf h key = x) := ⟨_, ⟨rfl⟩⟩
  have HKc := hd (show Mac.code h key b = Sha.sum h (Mac.padb K 92 bl ++ Sha.sum h (Mac.padb K 54 bl ++ b)) by rw [Mac.code, HK.out, Hbl.out])
  clear hh
  by_cases hgt : bl < n
  · have tg : (bl : Int) < (n : Int) := by omega
    have HKe := hd (show Sha.sum h key = K by rw [← HK.out, Mac.keyOf, Hbl.out, if_pos (by rw [hlen]; exact hgt)])
    go_enter Tryz.func37, Tryz.ntmps37
    go_wp2_with (first | (go_at_call 42; refine (rof_any h A n c key w hr (by omega)).mono ?_; rintro e w1 ⟨v1, rfl, own1, hW1⟩; rw [HKe.out] at own1; obtain ⟨A0, c0, e0⟩ := own1.slice; obtain ⟨n0, Hn0⟩ : ∃ x, Hd (List.length K = x) := ⟨_, ⟨rfl⟩⟩; rw [Hn0.out] at e0; subst e0; obtain ⟨w2, hmk1, ow2, gr2⟩ := run_makeI w1 w1.heap.size bl bl (Nat.le_refl _) (by omega) (Nat.le_refl _); obtain ⟨w3, hmk2, ow3, gr3⟩ := run_makeI w2 w2.heap.size bl bl (Nat.le_refl _) (by omega) (Nat.le_refl _)) | (go_at_call 49; refine (rblock_any h w).mono ?_; rintro e wz ⟨rfl, rfl⟩; rw [Hbl.out]))
    have hr0 : ReadsB w1 w1.heap.size A0 n0 K := ⟨Hn0.out, own1.reads_any.2.is⟩
    have hr1b : ReadsB w1 w1.heap.size D m b := ⟨hb.len, (hb.is.below hW1).more hW1.size⟩
    clear own1
    obtain ⟨go, Hgo⟩ : ∃ x, Hd (w1.heap.size = x) := ⟨_, ⟨rfl⟩⟩
    obtain ⟨gi, Hgi⟩ : ∃ x, Hd (w2.heap.size = x) := ⟨_, ⟨rfl⟩⟩
    obtain ⟨B, HBe⟩ : ∃ x, Hd (w1.heap.size = x) := ⟨_, ⟨rfl⟩⟩
    rw [Hgo.out] at ow2 ⊢
    rw [Hgi.out] at ow3 ⊢
    have hBgo : B = go := by rw [← HBe.out, Hgo.out]
    have hlt2 : go < w2.heap.size := (ow2.own.lt go rfl).2
    have hgg : go < gi := by rw [← Hgi.out]; exact hlt2
    have hB0 : Below B w1 w3 := by rw [← HBe.out]; exact below_new (below_new (Below.refl _ _) gr2 (Nat.le_refl _)) gr3 gr2.size
    have ow2' : OwnB w3 B (.slice (some ⟨go, 0, none⟩) bl bl) (Mac.padz K 92 bl 0) := by
      have h1 : OwnB w3 go (.slice (some ⟨go, 0, none⟩) bl bl) (List.replicate bl 0) := ⟨ow2.own.kept gr3 (.inr (by intro e; cases e))⟩
      rw [hBgo]; exact h1
    have ow3' : OwnB w3 B (.slice (some ⟨gi, 0, none⟩) bl bl) (Mac.padz K 54 bl 0) := ow3.low (by omega)
    clear ow2 ow3
    go_loopw [10, 11] (fun i _ wr => ∃ k : Nat, k ≤ bl ∧ i = .int .i64 (k : Int) ∧ OwnB wr B (.slice (some ⟨go, 0, none⟩) bl bl) (Mac.padz K 92 bl k) ∧ OwnB wr B (.slice (some ⟨gi, 0, none⟩) bl bl) (Mac.padz K 54 bl k) ∧ Below B w1 wr) (fun i _ _ => bl - (intOf i).toNat)
    case atStart => exact ⟨0, by omega, rfl, ow2', ow3', hB0⟩
    case round =>
      clear ow2' ow3' hB0
      obtain ⟨k, hk, rfl, own1, own2, hB⟩ := hrel
      have hB1 : Below w1.heap.size w1 wr := by have h := hB; rw [← HBe.out] at h; exact h
      by_cases hlt : k < bl
      · have t1 : (k : Int) < (bl : Int) := by omega
        have t2 : (0 : Int) ≤ (k : Int) := by omega
        by_cases hkn : k < n0
        · have t3 : (k : Int) < (n0 : Int) := by omega
          have hrr : ReadsB wr w1.heap.size A0 n0 K := ⟨hr0.len, hr0.is.below hB1⟩
          obtain ⟨ad, rfl, hab, hc⟩ := hrr.cell hkn
          obtain ⟨x, Hx⟩ : ∃ x, Hd (nth K k = x) := ⟨_, ⟨rfl⟩⟩
          rw [Hx.out] at hc
          obtain ⟨y1, Hy1⟩ : ∃ y, Hd (nth (Mac.padz K 92 bl k) k = y) := ⟨_, ⟨rfl⟩⟩
          obtain ⟨y2, Hy2⟩ : ∃ y, Hd (nth (Mac.padz K 54 bl k) k = y) := ⟨_, ⟨rfl⟩⟩
          obtain ⟨cc1, ff1⟩ := own1.at_ k hlt
          obtain ⟨cb2, fb2⟩ := own2.at_ k hlt
          rw [Hy2.out] at cb2
          have own2' : OwnB (wr.setCell ⟨go, k, none⟩ (.int .u8 ((n8 (x ^^^ 92) : Nat) : Int))) B (.slice (some ⟨gi, 0, none⟩) bl bl) (Mac.padz K 54 bl k) := own2.far (p := ⟨go, k, none⟩) (by show some gi ≠ some go; intro e; injection e; omega) _
          obtain ⟨cc2, ff2⟩ := own2'.at_ k hlt
          rw [Hy1.out] at cc1
          rw [Hy2.out] at cc2
          have own1' : OwnB (wr.setCell ⟨go, k, none⟩ (.int .u8 ((n8 (x ^^^ 92) : Nat) : Int))) B (.slice (some ⟨go, 0, none⟩) bl bl) ((Mac.padz K 92 bl k).set k (x ^^^ 92)) := own1.store k (x ^^^ 92)
          have own1'' := own1'.far (p := ⟨gi, k, none⟩) (by show some go ≠ some gi; intro e; injection e; omega) (.int .u8 ((n8 (x ^^^ 54) : Nat) : Int))
          have own2'' : OwnB ((wr.setCell ⟨go, k, none⟩ (.int .u8 ((n8 (x ^^^ 92) : Nat) : Int))).setCell ⟨gi, k, none⟩ (.int .u8 ((n8 (x ^^^ 54) : Nat) : Int))) B (.slice (some ⟨gi, 0, none⟩) bl bl) ((Mac.padz K 54 bl k).set k (x ^^^ 54)) := own2'.store k (x ^^^ 54)
          have hS1 := hd (show (Mac.padz K 92 bl k).set k (x ^^^ 92) = Mac.padz K 92 bl (k + 1) by have h := Mac.padz_set K 92 bl k hlt; rw [Hx.out] at h; exact h)
          have hS2 := hd (show (Mac.padz K 54 bl k).set k (x ^^^ 54) = Mac.padz K 54 bl (k + 1) by have h := Mac.padz_set K 54 bl k hlt; rw [Hx.out] at h; exact h)
          have hB' := (hB.setCell (p := ⟨go, k, none⟩) (by show B ≤ go; omega) (.int .u8 ((n8 (x ^^^ 92) : Nat) : Int))).setCell (p := ⟨gi, k, none⟩) (by show B ≤ gi; omega) (.int .u8 ((n8 (x ^^^ 54) : Nat) : Int))
          clear own1 own2 own1' own2'
          go_wp2
          go_roundw
          case rel => exact ⟨k + 1, by omega, by go_num, by rw [← hS1.out]; exact own1'', by rw [← hS2.out]; exact own2'', hB'⟩
          case measure => simp [intOf] <;> omega
        · have t3 : ¬ (k : Int) < (n0 : Int) := by omega
          have Hx := hd (show nth K k = 0 by unfold nth; rw [List.getD_eq_getElem?_getD, List.getElem?_eq_none (by rw [hr0.len]; omega)]; rfl)
          obtain ⟨y1, Hy1⟩ : ∃ y, Hd (nth (Mac.padz K 92 bl k) k = y) := ⟨_, ⟨rfl⟩⟩
          obtain ⟨y2, Hy2⟩ : ∃ y, Hd (nth (Mac.padz K 54 bl k) k = y) := ⟨_, ⟨rfl⟩⟩
          obtain ⟨cc1, ff1⟩ := own1.at_ k hlt
          obtain ⟨cb2, fb2⟩ := own2.at_ k hlt
          rw [Hy2.out] at cb2
          have own2' : OwnB (wr.setCell ⟨go, k, none⟩ (.int .u8 92)) B (.slice (some ⟨gi, 0, none⟩) bl bl) (Mac.padz K 54 bl k) := own2.far (p := ⟨go, k, none⟩) (by show some gi ≠ some go; intro e; injection e; omega) _
          obtain ⟨cc2, ff2⟩ := own2'.at_ k hlt
          rw [Hy1.out] at cc1
          rw [Hy2.out] at cc2
          have own1' : OwnB (wr.setCell ⟨go, k, none⟩ (.int .u8 92)) B (.slice (some ⟨go, 0, none⟩) bl bl) ((Mac.padz K 92 bl k).set k 92) := own1.store k 92
          have own1'' := own1'.far (p := ⟨gi, k, none⟩) (by show some go ≠ some gi; intro e; injection e; omega) (.int .u8 54)
          have own2'' : OwnB ((wr.setCell ⟨go, k, none⟩ (.int .u8 92)).setCell ⟨gi, k, none⟩ (.int .u8 54)) B (.slice (some ⟨gi, 0, none⟩) bl bl) ((Mac.padz K 54 bl k).set k 54) := own2'.store k 54
          have hS1 := hd (show (Mac.padz K 92 bl k).set k 92 = Mac.padz K 92 bl (k + 1) by have h := Mac.padz_set K 92 bl k hlt; rw [Hx.out] at h; exact h)
          have hS2 := hd (show (Mac.padz K 54 bl k).set k 54 = Mac.padz K 54 bl (k + 1) by have h := Mac.padz_set K 54 bl k hlt; rw [Hx.out] at h; exact h)
          have hB' := (hB.setCell (p := ⟨go, k, none⟩) (by show B ≤ go; omega) (.int .u8 92)).setCell (p := ⟨gi, k, none⟩) (by show B ≤ gi; omega) (.int .u8 54)
          clear own1 own2 own1' own2'
          go_wp2
          go_roundw
          case rel => exact ⟨k + 1, by omega, by go_num, by rw [← hS1.out]; exact own1'', by rw [← hS2.out]; exact own2'', hB'⟩
          case measure => simp [intOf] <;> omega
      · have ek : k = bl := by omega
        have t1 : ¬ (k : Int) < (bl : Int) := by omega
        rw [ek, Mac.padz_all] at own1 own2
        obtain ⟨PO, HPO⟩ : ∃ x, Hd (Mac.padb K 92 bl = x) := ⟨_, ⟨rfl⟩⟩
        obtain ⟨PI, HPI⟩ : ∃ x, Hd (Mac.padb K 54 bl = x) := ⟨_, ⟨rfl⟩⟩
        have HPOl := hd (show PO.length = bl by rw [← HPO.out, Mac.padb_len])
        have HPIl := hd (show PI.length = bl by rw [← HPI.out, Mac.padb_len])
        rw [HPO.out] at own1
        rw [HPI.out] at own2
        have hrb : ReadsB wr wr.heap.size D m b := by
          have h1 := hr1b
          exact ⟨h1.len, (h1.is.below hB1).more hB1.size⟩
        have hBs : B ≤ wr.heap.size := by have h := hB1.size; rw [HBe.out] at h; exact h
        obtain ⟨I1, HI1⟩ : ∃ x, Hd (PI ++ b = x) := ⟨_, ⟨rfl⟩⟩
        have HI1l := hd (show List.length I1 = bl + m by rw [← HI1.out, List.length_append, HPIl.out, hrb.len])
        obtain ⟨I2, HI2⟩ : ∃ x, Hd (Sha.sum h I1 = x) := ⟨_, ⟨rfl⟩⟩
        have HI2l := hd (show List.length I2 ≤ 64 by rw [← HI2.out, Sha.sum_len]; exact Mac.size_le h)
        obtain ⟨n7, Hn7⟩ : ∃ x, Hd (List.length I2 = x) := ⟨_, ⟨rfl⟩⟩
        obtain ⟨I3, HI3⟩ : ∃ x, Hd (PO ++ I2 = x) := ⟨_, ⟨rfl⟩⟩
        have HI3l := hd (show List.length I3 = bl + n7 by rw [← HI3.out, List.length_append, HPOl.out, Hn7.out])
        have hcl1 : PI.length + b.length ≤ 140737488355328 := by rw [HPIl.out, hrb.len]; omega
        have hcl2 : PO.length + I2.length ≤ 140737488355328 := by rw [HPOl.out]; have := HI2l.out; omega
        go_wp2_with (first | (at_builtin; refine wpl_appendB rfl _ _ rfl B (.slice (some ⟨go, 0, none⟩) bl bl) PO rfl own6 w5.heap.size A7 n7 c7 I2 rfl hrd7 hcl2 hB6 ?_; intro v8 w8 own8 gr8 at8; rw [HI3.out] at own8; obtain ⟨A8, c8, e8⟩ := own8.slice; rw [HI3l.out] at e8; subst e8; have hBw8 := below_appended hBw6 own6 gr8 (Nat.le_refl _) hB6; have hrd8 : ReadsB w8 w8.heap.size A8 (bl + n7) I3 := ⟨HI3l.out, own8.reads_any.2.is⟩) | (at_builtin; refine wpl_appendB rfl _ _ rfl B (.slice (some ⟨gi, 0, none⟩) bl bl) PI rfl own2 wr.heap.size D m d b rfl hrb hcl1 hBs ?_; intro v4 w4 own4 gr4 at4; rw [HI1.out] at own4; obtain ⟨A4, c4, e4⟩ := own4.slice; rw [HI1l.out] at e4; subst e4; have own1' : OwnB w4 B (.slice (some ⟨go, 0, none⟩) bl bl) PO := ⟨own1.own.kept gr4 (.inr (by show some go ≠ some gi; intro e; injection e; omega))⟩; have hBw4 := below_appended hB own2 gr4 (Nat.le_refl _) hBs; have hB4 : B ≤ w4.heap.size := Nat.le_trans hBs gr4.size; have hrd4 : ReadsB w4 w4.heap.size A4 (bl + m) I1 := ⟨HI1l.out, own4.reads_any.2.is⟩) | (go_at_call 42; refine (rof_any h A8 (bl + n7) c8 I3 w8 hrd8 (by have := HI2l.out; have := Hn7.out; omega)).mono ?_; rintro e w9 ⟨v9, rfl, own9, hB9⟩) | (go_at_call 42; refine (rof_any h A4 (bl + m) c4 I1 w4 hrd4 (by omega)).mono ?_; rintro e w5 ⟨v5, rfl, own5, hB5⟩; rw [HI2.out] at own5; obtain ⟨A7, c7, e5⟩ := own5.slice; rw [Hn7.out] at e5; subst e5; have own6 := own1'.later hB5; have hrd7 : ReadsB w5 w5.heap.size A7 n7 I2 := ⟨Hn7.out, own5.reads_any.2.is⟩; have hB6 : B ≤ w5.heap.size := Nat.le_trans hB4 hB5.size; have hBw6 := hBw4.trans (hB5.mono hB4)))
        go_ret
        have hBf : Below B w1 w9 := hBw8.trans (hB9.mono (by have := gr8.size; omega))
        rw [← HBe.out] at hBf
        have hb8 : w.heap.size ≤ w8.heap.size := by have h1 := hW1.size; have h2 := hBw8.size; omega
        refine ⟨_, rfl, ?_, hW1.trans (hBf.mono hW1.size)⟩
        rw [HKc.out, HPO.out, HPI.out, HI1.out, HI2.out, HI3.out]
        exact own9.low hb8
  · have tg : ¬ (bl : Int) < (n : Int) := by omega
    have HKe := hd (show key = K by rw [← HK.out, Mac.keyOf, Hbl.out, if_neg (by rw [hlen]; exact hgt)])
    obtain ⟨w2, hmk1, ow2, gr2⟩ := run_makeI w w.heap.size bl bl (Nat.le_refl _) (by omega) (Nat.le_refl _); obtain ⟨w3, hmk2, ow3, gr3⟩ := run_makeI w2 w2.heap.size bl bl (Nat.le_refl _) (by omega) (Nat.le_refl _)
    go_enter Tryz.func37, Tryz.ntmps37
    go_wp2_with (first | (go_at_call 49; refine (rblock_any h w).mono ?_; rintro e wz ⟨rfl, rfl⟩; rw [Hbl.out]))
    have hr0 : ReadsB w w.heap.size A n K := by rw [← HKe.out]; exact hr
    have hr1b : ReadsB w w.heap.size D m b := hb
    have hW1 : Below w.heap.size w w := Below.refl _ _
    obtain ⟨go, Hgo⟩ : ∃ x, Hd (w.heap.size = x) := ⟨_, ⟨rfl⟩⟩
    obtain ⟨gi, Hgi⟩ : ∃ x, Hd (w2.heap.size = x) := ⟨_, ⟨rfl⟩⟩
    obtain ⟨B, HBe⟩ : ∃ x, Hd (w.heap.size = x) := ⟨_, ⟨rfl⟩⟩
    rw [Hgo.out] at ow2 ⊢
    rw [Hgi.out] at ow3 ⊢
    have hBgo : B = go := by rw [← HBe.out, Hgo.out]
    have hlt2 : go < w2.heap.size := (ow2.own.lt go rfl).2
    have hgg : go < gi := by rw [← Hgi.out]; exact hlt2
    have hB0 : Below B w w3 := by rw [← HBe.out]; exact below_new (below_new (Below.refl _ _) gr2 (Nat.le_refl _)) gr3 gr2.size
    have ow2' : OwnB w3 B (.slice (some ⟨go, 0, none⟩) bl bl) (Mac.padz K 92 bl 0) := by
      have h1 : OwnB w3 go (.slice (some ⟨go, 0, none⟩) bl bl) (List.replicate bl 0) := ⟨ow2.own.kept gr3 (.inr (by intro e; cases e))⟩
      rw [hBgo]; exact h1
    have ow3' : OwnB w3 B (.slice (some ⟨gi, 0, none⟩) bl bl) (Mac.padz K 54 bl 0) := ow3.low (by omega)
    clear ow2 ow3
    go_loopw [10, 11] (fun i _ wr => ∃ k : Nat, k ≤ bl ∧ i = .int .i64 (k : Int) ∧ OwnB wr B (.slice (some ⟨go, 0, none⟩) bl bl) (Mac.padz K 92 bl k) ∧ OwnB wr B (.slice (some ⟨gi, 0, none⟩) bl bl) (Mac.padz K 54 bl k) ∧ Below B w wr) (fun i _ _ => bl - (intOf i).toNat)
    case atStart => exact ⟨0, by omega, rfl, ow2', ow3', hB0⟩
    case round =>
      clear ow2' ow3' hB0
      obtain ⟨k, hk, rfl, own1, own2, hB⟩ := hrel
      have hB1 : Below w.heap.size w wr := by have h := hB; rw [← HBe.out] at h; exact h
      by_cases hlt : k < bl
      · have t1 : (k : Int) < (bl : Int) := by omega
        have t2 : (0 : Int) ≤ (k : Int) := by omega
        by_cases hkn : k < n
        · have t3 : (k : Int) < (n : Int) := by omega
          have hrr : ReadsB wr w.heap.size A n K := ⟨hr0.len, hr0.is.below hB1⟩
          obtain ⟨ad, rfl, hab, hc⟩ := hrr.cell hkn
          obtain ⟨x, Hx⟩ : ∃ x, Hd (nth K k = x) := ⟨_, ⟨rfl⟩⟩
          rw [Hx.out] at hc
          obtain ⟨y1, Hy1⟩ : ∃ y, Hd (nth (Mac.padz K 92 bl k) k = y) := ⟨_, ⟨rfl⟩⟩
          obtain ⟨y2, Hy2⟩ : ∃ y, Hd (nth (Mac.padz K 54 bl k) k = y) := ⟨_, ⟨rfl⟩⟩
          obtain ⟨cc1, ff1⟩ := own1.at_ k hlt
          obtain ⟨cb2, fb2⟩ := own2.at_ k hlt
          rw [Hy2.out] at cb2
          have own2' : OwnB (wr.setCell ⟨go, k, none⟩ (.int .u8 ((n8 (x ^^^ 92) : Nat) : Int))) B (.slice (some ⟨gi, 0, none⟩) bl bl) (Mac.padz K 54 bl k) := own2.far (p := ⟨go, k, none⟩) (by show some gi ≠ some go; intro e; injection e; omega) _
          obtain ⟨cc2, ff2⟩ := own2'.at_ k hlt
          rw [Hy1.out] at cc1
          rw [Hy2.out] at cc2
          have own1' : OwnB (wr.setCell ⟨go, k, none⟩ (.int .u8 ((n8 (x ^^^ 92) : Nat) : Int))) B (.slice (some ⟨go, 0, none⟩) bl bl) ((Mac.padz K 92 bl k).set k (x ^^^ 92)) := own1.store k (x ^^^ 92)
          have own1'' := own1'.far (p := ⟨gi, k, none⟩) (by show some go ≠ some gi; intro e; injection e; omega) (.int .u8 ((n8 (x ^^^ 54) : Nat) : Int))
          have own2'' : OwnB ((wr.setCell ⟨go, k, none⟩ (.int .u8 ((n8 (x ^^^ 92) : Nat) : Int))).setCell ⟨gi, k, none⟩ (.int .u8 ((n8 (x ^^^ 54) : Nat) : Int))) B (.slice (some ⟨gi, 0, none⟩) bl bl) ((Mac.padz K 54 bl k).set k (x ^^^ 54)) := own2'.store k (x ^^^ 54)
          have hS1 := hd (show (Mac.padz K 92 bl k).set k (x ^^^ 92) = Mac.padz K 92 bl (k + 1) by have h := Mac.padz_set K 92 bl k hlt; rw [Hx.out] at h; exact h)
          have hS2 := hd (show (Mac.padz K 54 bl k).set k (x ^^^ 54) = Mac.padz K 54 bl (k + 1) by have h := Mac.padz_set K 54 bl k hlt; rw [Hx.out] at h; exact h)
          have hB' := (hB.setCell (p := ⟨go, k, none⟩) (by show B ≤ go; omega) (.int .u8 ((n8 (x ^^^ 92) : Nat) : Int))).setCell (p := ⟨gi, k, none⟩) (by show B ≤ gi; omega) (.int .u8 ((n8 (x ^^^ 54) : Nat) : Int))
          clear own1 own2 own1' own2'
          go_wp2
          go_roundw
          case rel => exact ⟨k + 1, by omega, by go_num, by rw [← hS1.out]; exact own1'', by rw [← hS2.out]; exact own2'', hB'⟩
          case measure => simp [intOf] <;> omega
        · have t3 : ¬ (k : Int) < (n : Int) := by omega
          have Hx := hd (show nth K k = 0 by unfold nth; rw [List.getD_eq_getElem?_getD, List.getElem?_eq_none (by rw [hr0.len]; omega)]; rfl)
          obtain ⟨y1, Hy1⟩ : ∃ y, Hd (nth (Mac.padz K 92 bl k) k = y) := ⟨_, ⟨rfl⟩⟩
          obtain ⟨y2, Hy2⟩ : ∃ y, Hd (nth (Mac.padz K 54 bl k) k = y) := ⟨_, ⟨rfl⟩⟩
          obtain ⟨cc1, ff1⟩ := own1.at_ k hlt
          obtain ⟨cb2, fb2⟩ := own2.at_ k hlt
          rw [Hy2.out] at cb2
          have own2' : OwnB (wr.setCell ⟨go, k, none⟩ (.int .u8 92)) B (.slice (some ⟨gi, 0, none⟩) bl bl) (Mac.padz K 54 bl k) := own2.far (p := ⟨go, k, none⟩) (by show some gi ≠ some go; intro e; injection e; omega) _
          obtain ⟨cc2, ff2⟩ := own2'.at_ k hlt
          rw [Hy1.out] at cc1
          rw [Hy2.out] at cc2
          have own1' : OwnB (wr.setCell ⟨go, k, none⟩ (.int .u8 92)) B (.slice (some ⟨go, 0, none⟩) bl bl) ((Mac.padz K 92 bl k).set k 92) := own1.store k 92
          have own1'' := own1'.far (p := ⟨gi, k, none⟩) (by show some go ≠ some gi; intro e; injection e; omega) (.int .u8 54)
          have own2'' : OwnB ((wr.setCell ⟨go, k, none⟩ (.int .u8 92)).setCell ⟨gi, k, none⟩ (.int .u8 54)) B (.slice (some ⟨gi, 0, none⟩) bl bl) ((Mac.padz K 54 bl k).set k 54) := own2'.store k 54
          have hS1 := hd (show (Mac.padz K 92 bl k).set k 92 = Mac.padz K 92 bl (k + 1) by have h := Mac.padz_set K 92 bl k hlt; rw [Hx.out] at h; exact h)
          have hS2 := hd (show (Mac.padz K 54 bl k).set k 54 = Mac.padz K 54 bl (k + 1) by have h := Mac.padz_set K 54 bl k hlt; rw [Hx.out] at h; exact h)
          have hB' := (hB.setCell (p := ⟨go, k, none⟩) (by show B ≤ go; omega) (.int .u8 92)).setCell (p := ⟨gi, k, none⟩) (by show B ≤ gi; omega) (.int .u8 54)
          clear own1 own2 own1' own2'
          go_wp2
          go_roundw
          case rel => exact ⟨k + 1, by omega, by go_num, by rw [← hS1.out]; exact own1'', by rw [← hS2.out]; exact own2'', hB'⟩
          case measure => simp [intOf] <;> omega
      · have ek : k = bl := by omega
        have t1 : ¬ (k : Int) < (bl : Int) := by omega
        rw [ek, Mac.padz_all] at own1 own2
        obtain ⟨PO, HPO⟩ : ∃ x, Hd (Mac.padb K 92 bl = x) := ⟨_, ⟨rfl⟩⟩
        obtain ⟨PI, HPI⟩ : ∃ x, Hd (Mac.padb K 54 bl = x) := ⟨_, ⟨rfl⟩⟩
        have HPOl := hd (show PO.length = bl by rw [← HPO.out, Mac.padb_len])
        have HPIl := hd (show PI.length = bl by rw [← HPI.out, Mac.padb_len])
        rw [HPO.out] at own1
        rw [HPI.out] at own2
        have hrb : ReadsB wr wr.heap.size D m b := by
          have h1 := hr1b
          exact ⟨h1.len, (h1.is.below hB1).more hB1.size⟩
        have hBs : B ≤ wr.heap.size := by have h := hB1.size; rw [HBe.out] at h; exact h
        obtain ⟨I1, HI1⟩ : ∃ x, Hd (PI ++ b = x) := ⟨_, ⟨rfl⟩⟩
        have HI1l := hd (show List.length I1 = bl + m by rw [← HI1.out, List.length_append, HPIl.out, hrb.len])
        obtain ⟨I2, HI2⟩ : ∃ x, Hd (Sha.sum h I1 = x) := ⟨_, ⟨rfl⟩⟩
        have HI2l := hd (show List.length I2 ≤ 64 by rw [← HI2.out, Sha.sum_len]; exact Mac.size_le h)
        obtain ⟨n7, Hn7⟩ : ∃ x, Hd (List.length I2 = x) := ⟨_, ⟨rfl⟩⟩
        obtain ⟨I3, HI3⟩ : ∃ x, Hd (PO ++ I2 = x) := ⟨_, ⟨rfl⟩⟩
        have HI3l := hd (show List.length I3 = bl + n7 by rw [← HI3.out, List.length_append, HPOl.out, Hn7.out])
        have hcl1 : PI.length + b.length ≤ 140737488355328 := by rw [HPIl.out, hrb.len]; omega
        have hcl2 : PO.length + I2.length ≤ 140737488355328 := by rw [HPOl.out]; have := HI2l.out; omega
        go_wp2_with (first | (at_builtin; refine wpl_appendB rfl _ _ rfl B (.slice (some ⟨go, 0, none⟩) bl bl) PO rfl own6 w5.heap.size A7 n7 c7 I2 rfl hrd7 hcl2 hB6 ?_; intro v8 w8 own8 gr8 at8; rw [HI3.out] at own8; obtain ⟨A8, c8, e8⟩ := own8.slice; rw [HI3l.out] at e8; subst e8; have hBw8 := below_appended hBw6 own6 gr8 (Nat.le_refl _) hB6; have hrd8 : ReadsB w8 w8.heap.size A8 (bl + n7) I3 := ⟨HI3l.out, own8.reads_any.2.is⟩) | (at_builtin; refine wpl_appendB rfl _ _ rfl B (.slice (some ⟨gi, 0, none⟩) bl bl) PI rfl own2 wr.heap.size D m d b rfl hrb hcl1 hBs ?_; intro v4 w4 own4 gr4 at4; rw [HI1.out] at own4; obtain ⟨A4, c4, e4⟩ := own4.slice; rw [HI1l.out] at e4; subst e4; have own1' : OwnB w4 B (.slice (some ⟨go, 0, none⟩) bl bl) PO := ⟨own1.own.kept gr4 (.inr (by show some go ≠ some gi; intro e; injection e; omega))⟩; have hBw4 := below_appended hB own2 gr4 (Nat.le_refl _) hBs; have hB4 : B ≤ w4.heap.size := Nat.le_trans hBs gr4.size; have hrd4 : ReadsB w4 w4.heap.size A4 (bl + m) I1 := ⟨HI1l.out, own4.reads_any.2.is⟩) | (go_at_call 42; refine (rof_any h A8 (bl + n7) c8 I3 w8 hrd8 (by have := HI2l.out; have := Hn7.out; omega)).mono ?_; rintro e w9 ⟨v9, rfl, own9, hB9⟩) | (go_at_call 42; refine (rof_any h A4 (bl + m) c4 I1 w4 hrd4 (by omega)).mono ?_; rintro e w5 ⟨v5, rfl, own5, hB5⟩; rw [HI2.out] at own5; obtain ⟨A7, c7, e5⟩ := own5.slice; rw [Hn7.out] at e5; subst e5; have own6 := own1'.later hB5; have hrd7 : ReadsB w5 w5.heap.size A7 n7 I2 := ⟨Hn7.out, own5.reads_any.2.is⟩; have hB6 : B ≤ w5.heap.size := Nat.le_trans hB4 hB5.size; have hBw6 := hBw4.trans (hB5.mono hB4)))
        go_ret
        have hBf : Below B w w9 := hBw8.trans (hB9.mono (by have := gr8.size; omega))
        rw [← HBe.out] at hBf
        have hb8 : w.heap.size ≤ w8.heap.size := by have h1 := hW1.size; have h2 := hBw8.size; omega
        refine ⟨_, rfl, ?_, hW1.trans (hBf.mono hW1.size)⟩
        rw [HKc.out, HPO.out, HPI.out, HI1.out, HI2.out, HI3.out]
        exact own9.low hb8
theorem rmac_any (h : Int) (A : Option Addr) (n c : Nat) (key : List UInt8) (D : Option Addr) (m d : Nat) (b : List UInt8) (w : World) (hr : ReadsB w w.heap.size A n key) (hn : n ≤ 140737488353000) (hb : ReadsB w w.heap.size D m b) (hm : m ≤ 140737488353000) :
    Calls Tryz.prog 37 #[.int .i64 h, .slice A n c, .slice D m d] w fun e w' => ∃ v, e = .returned v ∧ OwnB w' w.heap.size v (Mac.code h key b) ∧ Below w.heap.size w w' := by
  by_cases hh : h = 1 ∨ h = 2 ∨ h = 3
  · exact rmac_valid h hh A n c key D m d b w hr hn hb hm
  · have h1 : ¬ h = 1 := fun e => hh (.inl e)
    have h2 : ¬ h = 2 := fun e => hh (.inr (.inl e))
    have h3 : ¬ h = 3 := fun e => hh (.inr (.inr e))
    have hz : Sha.blockLen h = 0 := by unfold Sha.blockLen; rw [if_neg h1, if_neg h2, if_neg h3]
    go_enter Tryz.func37, Tryz.ntmps37
    go_wp2_with (first | (go_at_call 49; refine (rblock_any h w).mono ?_; rintro e wz ⟨rfl, rfl⟩; rw [hz]))
    go_ret
    exact ⟨_, rfl, by rw [Mac.code_none h1 h2 h3]; exact OwnB.nil _ _, Below.refl _ _⟩
end Go.Proofs.YtbcboldepghgpaaGreatDoor
