/-
  mac.Expand.
-/
import Derived.Test.YtbcboldepghgpaaGreatDoorMacB
set_option linter.unusedVariables false
set_option linter.unusedSimpArgs false
set_option maxRecDepth 100000
namespace Go.Proofs.YtbcboldepghgpaaGreatDoor
open Go.RowKit
namespace Mac
/-- The code of the i-th step; all of the first k, one behind the other. -/
def last (h : Int) (key info : List UInt8) : Nat → List UInt8
  | 0 => []
  | i + 1 => code h key (last h key info i ++ info ++ [UInt8.ofNat (i + 1)])
def outs (h : Int) (key info : List UInt8) : Nat → List UInt8
  | 0 => []
  | k + 1 => outs h key info k ++ last h key info (k + 1)
theorem last_len (h : Int) (key info : List UInt8) (i : Nat) : (last h key info (i + 1)).length = Sha.size h := code_len _ _ _
theorem outs_len (h : Int) (key info : List UInt8) : ∀ k, (outs h key info k).length = k * Sha.size h
  | 0 => by simp [outs]
  | k + 1 => by rw [outs, List.length_append, outs_len h key info k, last_len, Nat.succ_mul]
theorem outs_more (h : Int) (key info : List UInt8) (i : Nat) : ∀ d, ∃ r, outs h key info (i + d) = outs h key info i ++ r
  | 0 => ⟨[], by simp⟩
  | d + 1 => by
    obtain ⟨r, hr⟩ := outs_more h key info i d
    exact ⟨r ++ last h key info (i + d + 1), by rw [← Nat.add_assoc, outs, hr, List.append_assoc]⟩
/-- n bytes that are made of a key. -/
def expand (h : Int) (key info : List UInt8) (n : Nat) : List UInt8 := (outs h key info 255).take n
theorem expand_is (h : Int) (key info : List UInt8) (n i : Nat) (hi : i ≤ 255) (hn : n ≤ i * Sha.size h) : (outs h key info i).take n = expand h key info n := by
  obtain ⟨r, hr⟩ := outs_more h key info i (255 - i)
  rw [show i + (255 - i) = 255 by omega] at hr
  rw [expand, hr, List.take_append_of_le_length (by rw [outs_len]; exact hn)]
theorem expand_len (h : Int) (key info : List UInt8) (n : Nat) (hn : n ≤ 255 * Sha.size h) : (expand h key info n).length = n := by
  rw [expand, List.length_take, outs_len]; omega
end Mac
theorem joined_three (p q r : Part) : joined [p, q, r] = p.t ++ q.t ++ r.t := by simp [joined]
theorem parts_three {w : World} {A B C : Option Addr} {n m k c d e : Nat} {s t u : List UInt8} (hs : ReadsB w w.heap.size A n s) (ht : ReadsB w w.heap.size B m t) (hu : ReadsB w w.heap.size C k u) (hn : n ≤ 140737488355000) (hm : m ≤ 140737488355000) (hk : k ≤ 140737488355000) :
    Parts (w.alloc (.cells #[.slice A n c, .slice B m d, .slice C k e] 25)) (w.alloc (.cells #[.slice A n c, .slice B m d, .slice C k e] 25)).heap.size (some ⟨w.heap.size, 0, none⟩) 3 [⟨A, n, c, s⟩, ⟨B, m, d, t⟩, ⟨C, k, e, u⟩] := by
  have hB := (Below.refl w.heap.size w).alloc (Nat.le_refl _) (.cells #[.slice A n c, .slice B m d, .slice C k e] 25)
  have hb := Blk.nu (w := w) (t := 25) (cs := #[.slice A n c, .slice B m d, .slice C k e]) rfl
  refine ⟨rfl, fun i hi => ?_⟩
  refine ⟨_, rfl, by rw [alloc_size]; exact Nat.lt_succ_self _, ?_⟩
  rcases i with _ | _ | _ | i
  · exact ⟨hb.cell 0, ⟨hs.len, (hs.is.below hB).more hB.size⟩, hn⟩
  · exact ⟨hb.cell 1, ⟨ht.len, (ht.is.below hB).more hB.size⟩, hm⟩
  · exact ⟨hb.cell 2, ⟨hu.len, (hu.is.below hB).more hB.size⟩, hk⟩
  · omega
theorem ofNat8_cast (i : Nat) (h : i < 256) : ((n8 (UInt8.ofNat i) : Nat) : Int) = (i : Int) := by
  show (((UInt8.ofNat i).toNat : Nat) : Int) = _
  rw [UInt8.toNat_ofNat', Nat.mod_eq_of_lt h]
def lenOf : Value → Nat
  | .slice _ n _ => n
  | _ => 0
/-- mac.Expand, refused. -/
theorem expand_no (h : Int) (A B : Value) (n : Int) (hno : Sha.size h = 0 ∨ n < 0 ∨ 255 * (Sha.size h : Int) < n) (w : World) :
    Calls Tryz.prog 45 #[.int .i64 h, A, B, .int .i64 n] w fun e w' => e = .returned (.tuple #[.slice none 0 0, .int .i64 1]) ∧ w = w' := by
  obtain ⟨S, HS⟩ : ∃ x, Hd (Sha.size h = x) := ⟨_, ⟨rfl⟩⟩
  have hsl := Mac.size_le h
  rw [HS.out] at hno hsl
  have wS : IntKind.i64.wrap (255 * (S : Int)) = 255 * (S : Int) := IntWalk.i64_in _ (by omega)
  by_cases h0 : S = 0
  · subst h0
    go_enter Tryz.func45, Tryz.ntmps45
    go_wp2_with (first | (go_at_call 22; refine (size_any h w).mono ?_; rintro e w0 ⟨rfl, rfl⟩; rw [HS.out]))
    go_ret2
    exact ⟨rfl, rfl⟩
  · have hs0 : ¬ (S : Int) = 0 := by omega
    by_cases hn : n < 0
    · go_enter Tryz.func45, Tryz.ntmps45
      go_wp2_with (first | (go_at_call 22; refine (size_any h w).mono ?_; rintro e w0 ⟨rfl, rfl⟩; rw [HS.out]))
      go_ret2
      exact ⟨rfl, rfl⟩
    · have hbig : 255 * (S : Int) < n := by omega
      go_enter Tryz.func45, Tryz.ntmps45
      go_wp2_with (first | (go_at_call 22; refine (size_any h w).mono ?_; rintro e w0 ⟨rfl, rfl⟩; rw [HS.out]))
      go_ret2
      exact ⟨rfl, rfl⟩
set_option maxHeartbeats 4000000 in
/-- mac.Expand. -/
theorem expand_any (h : Int) (A : Option Addr) (m c : Nat) (key : List UInt8) (D : Option Addr) (k d : Nat) (info : List UInt8) (n : Nat) (w : World) (hs : 0 < Sha.size h) (hn : n ≤ 255 * Sha.size h) (hr : ReadsB w w.heap.size A m key) (hm : m ≤ 140737488355000) (hi : ReadsB w w.heap.size D k info) (hk : k ≤ 140737488355000) (htb : Tabs w) :
    Calls Tryz.prog 45 #[.int .i64 h, .slice A m c, .slice D k d, .int .i64 (n : Int)] w fun e w' => ∃ v, e = .returned (.tuple #[v, .int .i64 0]) ∧ OwnB w' w.heap.size v (Mac.expand h key info n) ∧ Below w.heap.size w w' := by
  have hh : h = 1 ∨ h = 2 ∨ h = 3 := by
    by_cases h1 : h = 1
    · exact .inl h1
    · by_cases h2 : h = 2
      · exact .inr (.inl h2)
      · by_cases h3 : h = 3
        · exact .inr (.inr h3)
        · rw [Mac.size_none h1 h2 h3] at hs; omega
  have Hh := hd hh
  clear hh
  have hsl := Mac.size_le h
  obtain ⟨S, HS⟩ : ∃ x, Hd (Sha.size h = x) := ⟨_, ⟨rfl⟩⟩
  have Hll := hd (Mac.last_len h key info)
  have Hol := hd (Mac.outs_len h key info)
  have Hxi := hd (Mac.expand_is h key info n)
  rw [HS.out] at hs hn hsl
  have wS : IntKind.i64.wrap (255 * (S : Int)) = 255 * (S : Int) := IntWalk.i64_in _ (by omega)
  have hs0 : ¬ (S : Int) = 0 := by omega
  have hn0 : ¬ (n : Int) < 0 := by omega
  have hnb : ¬ 255 * (S : Int) < (n : Int) := by omega
  have bn : decide ((n : Int) < 0) = false := decide_eq_false hn0
  have bb : decide (255 * (S : Int) < (n : Int)) = false := decide_eq_false hnb
  have hmf : ∀ (fn : Fn) (first cap : Array Value) (w : World), (Instr.makeFunc fn first cap).run Tryz.prog w = .ok (.func fn first cap) w := fun _ _ _ _ => rfl
  go_enter Tryz.func45, Tryz.ntmps45
  go_wp2_with (first | (go_at_call 48; refine (keyed_any h Hh.out A m c key w hr hm htb).mono ?_; rintro e w1 ⟨b1, b2, rfl, hkd, hB1⟩) | (go_at_call 22; refine (size_any h w).mono ?_; rintro e w0 ⟨rfl, rfl⟩; rw [HS.out]))
  go_loopw [12, 13, 14] (fun v l u wr => ∃ (i : Nat) (A' : Option Addr) (n' c' : Nat), i ≤ 255 ∧ u = .int .u8 ((n8 (UInt8.ofNat (i + 1)) : Nat) : Int) ∧ l = .slice A' n' c' ∧ n' ≤ 64 ∧ OwnB wr w1.heap.size v (Mac.outs h key info i) ∧ ReadsB wr wr.heap.size A' n' (Mac.last h key info i) ∧ Below w1.heap.size w1 wr) (fun v _ _ _ => n - (lenOf v))
  case atStart => exact ⟨0, none, 0, 0, by omega, rfl, rfl, by omega, OwnB.nil _ _, ⟨rfl, Reads.none_⟩, Below.refl _ _⟩
  case round =>
    obtain ⟨i, A', n', c', hi255, rfl, rfl, hn', own, hrl, hB⟩ := hrel
    obtain ⟨o, Ho⟩ : ∃ x, Hd (Mac.outs h key info i = x) := ⟨_, ⟨rfl⟩⟩
    have Hlo := hd (show o.length = i * S by rw [← Ho.out, Hol.out, HS.out])
    rw [Ho.out] at own
    obtain ⟨A2, c2, e2⟩ := own.slice
    obtain ⟨m2, Hm2⟩ : ∃ x, Hd (o.length = x) := ⟨_, ⟨rfl⟩⟩
    rw [Hm2.out] at e2
    subst e2
    by_cases hlt : m2 < n
    · have t1 : (m2 : Int) < (n : Int) := by omega
      have hil : i < 255 := by
        have h1 := Hlo.out
        rw [Hm2.out] at h1
        rcases Nat.lt_or_ge i 255 with h | h
        · exact h
        · have := Nat.mul_le_mul_right S h; omega
      obtain ⟨X, HX⟩ : ∃ x, Hd (UInt8.ofNat (i + 1) = x) := ⟨_, ⟨rfl⟩⟩
      rw [HX.out]
      have hBa : Below wr.heap.size wr (wr.alloc (.cells #[.int .u8 ((n8 X : Nat) : Int)] 5)) := (Below.refl _ _).alloc (Nat.le_refl _) _
      have hrl' : ReadsB (wr.alloc (.cells #[.int .u8 ((n8 X : Nat) : Int)] 5)) (wr.alloc (.cells #[.int .u8 ((n8 X : Nat) : Int)] 5)).heap.size A' n' (Mac.last h key info i) := ⟨hrl.len, (hrl.is.below hBa).more hBa.size⟩
      have hB1a : Below w.heap.size w (wr.alloc (.cells #[.int .u8 ((n8 X : Nat) : Int)] 5)) := (hB1.trans (hB.mono hB1.size)).alloc (Nat.le_trans hB1.size hB.size) _
      have hri' : ReadsB (wr.alloc (.cells #[.int .u8 ((n8 X : Nat) : Int)] 5)) (wr.alloc (.cells #[.int .u8 ((n8 X : Nat) : Int)] 5)).heap.size D k info := ⟨hi.len, (hi.is.below hB1a).more hB1a.size⟩
      have hone := ReadsB.one wr X
      rw [← alloc_size wr (.cells #[.int .u8 ((n8 X : Nat) : Int)] 5)] at hone
      have hp := parts_three (c := c') (d := d) (e := 1) hrl' hri' hone (by omega) hk (by omega)
      rw [alloc_size wr] at hp
      have hBb : Below wr.heap.size wr ((wr.alloc (.cells #[.int .u8 ((n8 X : Nat) : Int)] 5)).alloc (.cells #[.slice A' n' c', .slice D k d, .slice (some ⟨wr.heap.size, 0, none⟩) 1 1] 25)) := hBa.alloc hBa.size _
      have hkb := hkd.below (hB.trans (hBb.mono hB.size))
      have htbb := htb.below ((hB1.trans (hB.mono hB1.size)).trans (hBb.mono (Nat.le_trans hB1.size hB.size)))
      obtain ⟨L, HL⟩ : ∃ x, Hd (Mac.last h key info (i + 1) = x) := ⟨_, ⟨rfl⟩⟩
      have HLl := hd (show L.length = S by rw [← HL.out, Hll.out, HS.out])
      have HLe := hd (show Sha.sum h (Mac.padb (Mac.keyOf h key) 92 (Sha.blockLen h) ++ Sha.sum h (Mac.padb (Mac.keyOf h key) 54 (Sha.blockLen h) ++ joined [⟨A', n', c', Mac.last h key info i⟩, ⟨D, k, d, info⟩, ⟨some ⟨wr.heap.size, 0, none⟩, 1, 1, [X]⟩])) = L by
        rw [← HL.out, Mac.last, HX.out, joined_three]; rfl)
      have hown0 := own.size
      have hcl : o.length + L.length ≤ 140737488355328 := by rw [HLl.out, Hm2.out]; omega
      go_wp2_with (first | (at_builtin; refine wpl_appendB rfl _ _ rfl w1.heap.size (.slice A2 m2 c2) o rfl own3' w3.heap.size (some ⟨g3, 0, none⟩) S c3 L rfl hrd3 hcl hw13 ?_; intro v4 w4 own4 gr4 at4) | (go_at_call 63; refine (code_any h Hh.out _ _ b1 b2 (some ⟨wr.heap.size + 1, 0, none⟩) 3 3 _ ((wr.alloc (.cells #[.int .u8 ((n8 X : Nat) : Int)] 5)).alloc (.cells #[.slice A' n' c', .slice D k d, .slice (some ⟨wr.heap.size, 0, none⟩) 1 1] 25)) hkb hp (by omega) htbb).mono ?_; rintro e w3 ⟨v3, rfl, own3, hB3⟩; rw [HLe.out] at own3; obtain ⟨g3, c3, e3, hg3, hg3', _⟩ := own3.form (by rw [HLl.out]; exact hs); rw [HLl.out] at e3; subst e3; have hBw3 := hBb.trans (hB3.mono hBb.size); have own3' := own.later hBw3; have hrd3 : ReadsB w3 w3.heap.size (some ⟨g3, 0, none⟩) S L := own3.reads_any.2; have hw13 : w1.heap.size ≤ w3.heap.size := Nat.le_trans hB.size hBw3.size))
      have hne : Value.ownBlock (.slice (some ⟨g3, 0, none⟩) S c3) ≠ Value.ownBlock (.slice A2 m2 c2) := by
        have e3 : Value.ownBlock (.slice (some ⟨g3, 0, none⟩) S c3) = some g3 := rfl
        rw [e3]
        have hbs := hBb.size
        rcases hown0 with e | ⟨g, e, _, hg⟩
        · rw [e]; intro e; cases e
        · rw [e]; intro e; injection e; omega
      have own5 : OwnB w4 _ (.slice (some ⟨g3, 0, none⟩) S c3) L := ⟨own3.own.kept gr4 (.inr hne)⟩
      have hB4 := below_appended (hB.trans (hBw3.mono hB.size)) own3' gr4 (Nat.le_refl _) hw13
      go_roundw
      case rel => exact ⟨i + 1, some ⟨g3, 0, none⟩, S, c3, by omega, by congr 2; rw [← HX.out, UInt8.ofNat_add (i + 1) 1]; rfl, rfl, hsl, by rw [Mac.outs, Ho.out, HL.out]; exact own4, by rw [HL.out]; exact own5.reads_any.2, hB4⟩
      case measure =>
        obtain ⟨A4, c4, e4⟩ := own4.slice
        rw [List.length_append, HLl.out, Hm2.out] at e4
        rw [e4]
        show n - (m2 + S) < n - m2
        omega
    · have t1 : ¬ (m2 : Int) < (n : Int) := by omega
      have hroom := own.room
      have hnc : (n : Int) ≤ (c2 : Int) := by omega
      have hrt := own.reads_any.2.take (k := n) (by omega)
      have hcl : ([] : List UInt8).length + (o.take n).length ≤ 140737488355328 := by rw [List.length_take, Hm2.out]; simp; omega
      have hfin : o.take n = Mac.expand h key info n := by
        rw [← Ho.out]
        exact Hxi.out i (by omega) (by have h1 := Hlo.out; rw [Hm2.out] at h1; rw [HS.out, ← h1]; omega)
      go_wp2_with (first | (at_builtin; refine wpl_appendB rfl _ _ rfl w1.heap.size (.slice none 0 0) [] rfl (OwnB.nil _ _) wr.heap.size A2 n c2 (o.take n) rfl hrt hcl hB.size ?_; intro v4 w4 own4 gr4 at4))
      go_ret2
      rw [List.nil_append, hfin] at own4
      exact ⟨_, rfl, own4.low hB1.size, below_appended (hB1.trans (hB.mono hB1.size)) (OwnB.nil wr w.heap.size) gr4 (Nat.le_refl _) (Nat.le_trans hB1.size hB.size)⟩
end Go.Proofs.YtbcboldepghgpaaGreatDoor
