/-
  The reference's Expand (of a key).
-/
import Derived.Test.YtbcboldepghgpaaGreatDoorMacR
set_option linter.unusedVariables false
set_option linter.unusedSimpArgs false
set_option maxRecDepth 100000
namespace Go.Proofs.YtbcboldepghgpaaGreatDoor
open Go.RowKit
/-- ref06.Expand, refused. -/
theorem rexpand_no (h : Int) (A B : Value) (n : Int) (hno : Sha.size h = 0 ∨ n < 0 ∨ 255 * (Sha.size h : Int) < n) (w : World) :
    Calls Tryz.prog 47 #[.int .i64 h, A, B, .int .i64 n] w fun e w' => e = .returned (.tuple #[.slice none 0 0, .int .i64 1]) ∧ w = w' := by
  obtain ⟨S, HS⟩ : ∃ x, Hd (Sha.size h = x) := ⟨_, ⟨rfl⟩⟩
  have hsl := Mac.size_le h
  rw [HS.out] at hno hsl
  have wS : IntKind.i64.wrap (255 * (S : Int)) = 255 * (S : Int) := IntWalk.i64_in _ (by omega)
  by_cases h0 : S = 0
  · subst h0
    go_enter Tryz.func47, Tryz.ntmps47
    go_wp2_with (first | (go_at_call 40; refine (rsize_any h w).mono ?_; rintro e w0 ⟨rfl, rfl⟩; rw [HS.out]))
    go_ret2
    exact ⟨rfl, rfl⟩
  · have hs0 : ¬ (S : Int) = 0 := by omega
    by_cases hn : n < 0
    · go_enter Tryz.func47, Tryz.ntmps47
      go_wp2_with (first | (go_at_call 40; refine (rsize_any h w).mono ?_; rintro e w0 ⟨rfl, rfl⟩; rw [HS.out]))
      go_ret2
      exact ⟨rfl, rfl⟩
    · have hbig : 255 * (S : Int) < n := by omega
      go_enter Tryz.func47, Tryz.ntmps47
      go_wp2_with (first | (go_at_call 40; refine (rsize_any h w).mono ?_; rintro e w0 ⟨rfl, rfl⟩; rw [HS.out]))
      go_ret2
      exact ⟨rfl, rfl⟩
set_option maxHeartbeats 4000000 in
/-- ref06.Expand. -/
theorem rexpand_any (h : Int) (A : Option Addr) (m c : Nat) (key : List UInt8) (D : Option Addr) (k d : Nat) (info : List UInt8) (n : Nat) (w : World) (hs : 0 < Sha.size h) (hn : n ≤ 255 * Sha.size h) (hr : ReadsB w w.heap.size A m key) (hm : m ≤ 140737488353000) (hi : ReadsB w w.heap.size D k info) (hk : k ≤ 100000) :
    Calls Tryz.prog 47 #[.int .i64 h, .slice A m c, .slice D k d, .int .i64 (n : Int)] w fun e w' => ∃ v, e = .returned (.tuple #[v, .int .i64 0]) ∧ OwnB w' w.heap.size v (Mac.expand h key info n) ∧ Below w.heap.size w w' := by
  have hsl := Mac.size_le h
  obtain ⟨S, HS⟩ : ∃ x, Hd (Sha.size h = x) := ⟨_, ⟨rfl⟩⟩
  have Hll := hd (Mac.last_len h key info)
  have Hol := hd (Mac.outs_len h key info)
  have Hxi := hd (Mac.expand_is h key info n)
  rw [HS.out] at hs hn hsl
  have wS : IntKind.i64.wrap (255 * (S : Int)) = 255 * (S : Int) := IntWalk.i64_in _ (by omega)
  have hs0 : ¬ (S : Int) = 0 := by omega
  have hn0 : ¬ (n : Int) < 0 := by omega
  have hnb : ¬ 255 * (S : Int) < (n : Int) := by omega
  have bn : decide ((n : Int) < 0) = false := decide_eq_false hn0
  have bb : decide (255 * (S : Int) < (n : Int)) = false := decide_eq_false hnb
  have bs : ((S : Int) == 0) = false := by rw [beq_eq_false_iff_ne]; omega
  have Hil := hd hi.len
  go_enter Tryz.func47, Tryz.ntmps47
  go_wp2_with (first | (go_at_call 40; refine (rsize_any h w).mono ?_; rintro e w0 ⟨rfl, rfl⟩; rw [HS.out]))
  go_loopw [11, 12, 13] (fun v l u wr => ∃ (i : Nat) (A' : Option Addr) (n' c' : Nat), i ≤ 255 ∧ u = .int .i64 ((i : Int) + 1) ∧ l = .slice A' n' c' ∧ n' ≤ 64 ∧ OwnB wr w.heap.size v (Mac.outs h key info i) ∧ ReadsB wr wr.heap.size A' n' (Mac.last h key info i) ∧ Below w.heap.size w wr) (fun v _ _ _ => n - (lenOf v))
  case atStart => exact ⟨0, none, 0, 0, by omega, rfl, rfl, by omega, OwnB.nil _ _, ⟨rfl, Reads.none_⟩, Below.refl _ _⟩
  case round =>
    obtain ⟨i, A', n', c', hi255, rfl, rfl, hn', own, hrl, hB⟩ := hrel
    obtain ⟨o, Ho⟩ : ∃ x, Hd (Mac.outs h key info i = x) := ⟨_, ⟨rfl⟩⟩
    have Hlo := hd (show o.length = i * S by rw [← Ho.out, Hol.out, HS.out])
    rw [Ho.out] at own
    obtain ⟨A2, c2, e2⟩ := own.slice
    obtain ⟨m2, Hm2⟩ : ∃ x, Hd (o.length = x) := ⟨_, ⟨rfl⟩⟩
    rw [Hm2.out] at e2
    subst e2
    by_cases hlt : m2 < n
    · have t1 : (m2 : Int) < (n : Int) := by omega
      have hil : i < 255 := by
        have h1 := Hlo.out
        rw [Hm2.out] at h1
        rcases Nat.lt_or_ge i 255 with h | h
        · exact h
        · have := Nat.mul_le_mul_right S h; omega
      obtain ⟨X, HX⟩ : ∃ x, Hd (UInt8.ofNat (i + 1) = x) := ⟨_, ⟨rfl⟩⟩
      have he := hd (show ((n8 X : Nat) : Int) = (i : Int) + 1 by
        rw [← HX.out, ofNat8_cast (i + 1) (by omega)]; omega)
      have wi : IntKind.i64.wrap ((i : Int) + 1 + 1) = (i : Int) + 1 + 1 := IntWalk.i64_in _ (by omega)
      obtain ⟨T, HT⟩ : ∃ x, Hd (Mac.last h key info i = x) := ⟨_, ⟨rfl⟩⟩
      rw [HT.out] at hrl
      have hBa : Below wr.heap.size wr (wr.alloc (.cells #[] 5)) := (Below.refl _ _).alloc (Nat.le_refl _) _
      have hrl' : ReadsB (wr.alloc (.cells #[] 5)) wr.heap.size A' n' T := ⟨hrl.len, hrl.is.alloc (Nat.le_refl _) _⟩
      have own0 : OwnB (wr.alloc (.cells #[] 5)) wr.heap.size (.slice (some ⟨wr.heap.size, 0, none⟩) 0 0) [] := OwnB.empty (Nat.le_refl _)
      have hBs : wr.heap.size ≤ (wr.alloc (.cells #[] 5)).heap.size := by rw [alloc_size]; omega
      have hcl1 : ([] : List UInt8).length + T.length ≤ 140737488355328 := by rw [hrl.len]; simp; omega
      obtain ⟨T2, HT2⟩ : ∃ x, Hd (T ++ info = x) := ⟨_, ⟨rfl⟩⟩
      have hcl2 : T.length + info.length ≤ 140737488355328 := by rw [hrl.len, Hil.out]; omega
      have HT2l := hd (show T2.length = n' + k by rw [← HT2.out, List.length_append, hrl.len, Hil.out])
      obtain ⟨T3, HT3⟩ : ∃ x, Hd (T2 ++ [X] = x) := ⟨_, ⟨rfl⟩⟩
      have hcl3 : T2.length + [X].length ≤ 140737488355328 := by rw [HT2l.out]; simp; omega
      have HT3l := hd (show T3.length = n' + k + 1 by rw [← HT3.out, List.length_append, HT2l.out]; rfl)
      obtain ⟨L, HL⟩ : ∃ x, Hd (Mac.last h key info (i + 1) = x) := ⟨_, ⟨rfl⟩⟩
      have HLl := hd (show L.length = S by rw [← HL.out, Hll.out, HS.out])
      have HLe := hd (show Mac.code h key T3 = L by rw [← HL.out, Mac.last, HX.out, HT.out, HT2.out, HT3.out])
      have hown0 := own.size
      have hcl : o.length + L.length ≤ 140737488355328 := by rw [HLl.out, Hm2.out]; omega
      go_wp2_with (first | (at_builtin; refine wpl_appendB rfl _ _ rfl w.heap.size (.slice A2 m2 c2) o rfl own5' w5.heap.size (some ⟨g5, 0, none⟩) S c5 L rfl hrd5 hcl hw5 ?_; intro v6 w6 own6 gr6 at6) | (go_at_call 37; refine (rmac_any h A m c key A4 (n' + k + 1) c4 T3 w4 hrk4 hm hrd4 (by omega)).mono ?_; rintro e w5 ⟨v5, rfl, own5, hB5⟩; rw [HLe.out] at own5; obtain ⟨g5, c5, e5, hg5, hg5', _⟩ := own5.form (by rw [HLl.out]; exact hs); rw [HLl.out] at e5; subst e5; have hBw5 := hBw4.trans (hB5.mono hBw4.size); have own5' := own.later hBw5; have hrd5 : ReadsB w5 w5.heap.size (some ⟨g5, 0, none⟩) S L := own5.reads_any.2; have hw5 : w.heap.size ≤ w5.heap.size := Nat.le_trans hB.size hBw5.size) | (at_builtin; refine wpl_appendB rfl _ _ rfl wr.heap.size v2 T2 rfl own3 (w2.heap.size + 1) _ 1 1 [X] rfl hr3 hcl3 hBs3 ?_; intro v4 w4 own4 gr4 at4; rw [HT3.out] at own4; obtain ⟨A4, c4, e4⟩ := own4.slice; rw [HT3l.out] at e4; subst e4; have hBw4 := below_appended hBw3 own3 gr4 (Nat.le_refl _) hBs3; have hrd4 : ReadsB w4 w4.heap.size A4 (n' + k + 1) T3 := ⟨HT3l.out, own4.reads_any.2.is⟩; have hBx4 := hB.trans (hBw4.mono hB.size); have hrk4 : ReadsB w4 w4.heap.size A m key := ⟨hr.len, (hr.is.below hBx4).more hBx4.size⟩) | (at_builtin; refine wpl_appendB rfl _ _ rfl wr.heap.size v1 T rfl own1 w1.heap.size D k d info rfl hri1 hcl2 hBs1 ?_; intro v2 w2 own2 gr2 at2; rw [HT2.out] at own2; have hBw2 := below_appended hBw1 own1 gr2 (Nat.le_refl _) hBs1; have own3 := own2.alloc (.cells #[.int .u8 ((i : Int) + 1)] 5); have hr3 := ReadsB.one w2 X; rw [he.out] at hr3; have hBw3 := hBw2.alloc (Nat.le_trans hBs1 gr2.size) (.cells #[.int .u8 ((i : Int) + 1)] 5); have hBs3 := hBw3.size) | (at_builtin; refine wpl_appendB rfl _ _ rfl wr.heap.size (.slice (some ⟨wr.heap.size, 0, none⟩) 0 0) [] rfl own0 wr.heap.size A' n' c' T rfl hrl' hcl1 hBs ?_; intro v1 w1 own1 gr1 at1; rw [List.nil_append] at own1; have hBw1 := below_appended hBa own0 gr1 (Nat.le_refl _) hBs; have hBs1 := hBw1.size; have hBx1 := hB.trans (hBw1.mono hB.size); have hri1 : ReadsB w1 w1.heap.size D k info := ⟨hi.len, (hi.is.below hBx1).more hBx1.size⟩))
      have hne : Value.ownBlock (.slice (some ⟨g5, 0, none⟩) S c5) ≠ Value.ownBlock (.slice A2 m2 c2) := by
        have e3 : Value.ownBlock (.slice (some ⟨g5, 0, none⟩) S c5) = some g5 := rfl
        rw [e3]
        have hbs := hBw4.size
        rcases hown0 with e | ⟨g, e, _, hg⟩
        · rw [e]; intro e; cases e
        · rw [e]; intro e; injection e; omega
      have own7 : OwnB w6 _ (.slice (some ⟨g5, 0, none⟩) S c5) L := ⟨own5.own.kept gr6 (.inr hne)⟩
      have hB6 := below_appended (hB.trans (hBw5.mono hB.size)) own5' gr6 (Nat.le_refl _) hw5
      go_roundw
      case rel => exact ⟨i + 1, some ⟨g5, 0, none⟩, S, c5, by omega, by congr 1, rfl, hsl, by rw [Mac.outs, Ho.out, HL.out]; exact own6, by rw [HL.out]; exact own7.reads_any.2, hB6⟩
      case measure =>
        obtain ⟨A4', c4', e4'⟩ := own6.slice
        rw [List.length_append, HLl.out, Hm2.out] at e4'
        rw [e4']
        show n - (m2 + S) < n - m2
        omega
    · have t1 : ¬ (m2 : Int) < (n : Int) := by omega
      have hroom := own.room
      have hnc : (n : Int) ≤ (c2 : Int) := by omega
      have hfin : o.take n = Mac.expand h key info n := by
        rw [← Ho.out]
        exact Hxi.out i (by omega) (by have h1 := Hlo.out; rw [Hm2.out] at h1; rw [HS.out, ← h1]; omega)
      go_wp2
      go_ret2
      have hcut := own.cut (k := n) (by omega)
      rw [hfin] at hcut
      exact ⟨_, rfl, hcut, hB⟩
end Go.Proofs.YtbcboldepghgpaaGreatDoor
