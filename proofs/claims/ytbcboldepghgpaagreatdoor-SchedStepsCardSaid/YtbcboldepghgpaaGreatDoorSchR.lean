/-
  The reference's labels: counted, Expand, Derive.
-/
import Derived.Test.YtbcboldepghgpaaGreatDoorMacS
import Derived.Test.YtbcboldepghgpaaGreatDoorSchB
set_option linter.unusedVariables false
set_option linter.unusedSimpArgs false
set_option maxRecDepth 100000
namespace Go.Proofs.YtbcboldepghgpaaGreatDoor
open Go.RowKit
theorem OwnB.lit1 {w : World} {B : Nat} (hB : B ≤ w.heap.size) (a : UInt8) : OwnB (w.alloc (.cells #[.int .u8 ((n8 a : Nat) : Int)] 5)) B (.slice (some ⟨w.heap.size, 0, none⟩) 1 1) [a] :=
  ⟨rfl, .inr ⟨w.heap.size, 1, _, rfl, hB, heap_alloc_new _ _, Nat.le_refl _, by unfold maxLen; omega, rfl, rfl⟩⟩
theorem rcounted_any (A : Option Addr) (m c : Nat) (b : List UInt8) (w : World) (hr : ReadsB w w.heap.size A m b) (hlen : 1 + m ≤ 140737488355328) :
    Calls Tryz.prog 46 #[.slice A m c] w fun e w' => ∃ v', e = .returned v' ∧ OwnB w' w.heap.size v' (Sched.count b) ∧ Below w.heap.size w w' := by
  obtain ⟨x, Hx⟩ : ∃ x, Hd (Sched.byteOf (m : Int) = x) := ⟨_, ⟨rfl⟩⟩
  have hx : (m : Int) % 256 = ((n8 x : Nat) : Int) := by rw [← Hx.out]; exact mod8 _
  have Hm := hd hr.len
  have own1 := OwnB.lit1 (w := w) (Nat.le_refl _) x
  have hBa : Below w.heap.size w (w.alloc (.cells #[.int .u8 ((n8 x : Nat) : Int)] 5)) := (Below.refl _ _).alloc (Nat.le_refl _) _
  have hra : ReadsB (w.alloc (.cells #[.int .u8 ((n8 x : Nat) : Int)] 5)) w.heap.size A m b := ⟨hr.len, hr.is.alloc (Nat.le_refl _) _⟩
  have hBs := hBa.size
  have hcl : [x].length + b.length ≤ 140737488355328 := by rw [Hm.out]; simp; omega
  go_enter Tryz.func46, Tryz.ntmps46
  go_wp2_with (first | (at_builtin; refine wpl_appendB rfl _ _ rfl w.heap.size (.slice (some ⟨w.heap.size, 0, none⟩) 1 1) [x] rfl own1 w.heap.size A m c b rfl hra hcl hBs ?_; intro v2 w2 own2 gr2 at2))
  go_ret
  refine ⟨_, rfl, ?_, below_appended hBa own1 gr2 (Nat.le_refl _) hBs⟩
  rw [Sched.count, Hm.out, Hx.out]
  exact own2

set_option maxHeartbeats 4000000 in
/-- Expand, of any arguments. -/
theorem rsexpand_any (h : Int) (A : Option Addr) (m c : Nat) (key : List UInt8) (lab : List UInt8) (D : Option Addr) (k d : Nat) (ctx : List UInt8) (n : Int) (w : World) (hr : ReadsB w w.heap.size A m key) (hm : m ≤ 140737488353000) (hi : ReadsB w w.heap.size D k ctx) :
    Calls Tryz.prog 33 #[.int .i64 h, .slice A m c, .string (str lab), .slice D k d, .int .i64 n] w fun e w' => ∃ v, e = .returned (.tuple #[v, .int .i64 (Sched.err h lab ctx n)]) ∧ OwnB w' w.heap.size v (Sched.expand h key lab ctx n) ∧ Below w.heap.size w w' := by
  have Hk := hd hi.len
  have hsz := str_size lab
  have hsl := Mac.size_le h
  obtain ⟨S, HS⟩ : ∃ x, Hd (Sha.size h = x) := ⟨_, ⟨rfl⟩⟩
  rw [HS.out] at hsl
  have wS : IntKind.i64.wrap (255 * (S : Int)) = 255 * (S : Int) := IntWalk.i64_in _ (by omega)
  by_cases hre : Sched.refused h n lab ctx
  · have hE : Sched.err h lab ctx n = 191 := by unfold Sched.err; rw [if_pos hre]
    have hX : Sched.expand h key lab ctx n = [] := by unfold Sched.expand; rw [if_pos hre]
    rw [hE, hX]
    clear hE hX
    unfold Sched.refused at hre
    rw [HS.out, Hk.out] at hre
    have fin : ∀ (e : Ending) (w' : World), e = .returned (.tuple #[.slice none 0 0, .int .i64 191]) ∧ w = w' → ∃ v, e = .returned (.tuple #[v, .int .i64 191]) ∧ OwnB w' w.heap.size v [] ∧ Below w.heap.size w w' := by
      rintro e w' ⟨rfl, rfl⟩
      exact ⟨_, rfl, OwnB.nil _ _, Below.refl _ _⟩
    refine Calls.mono ?_ fin
    by_cases h0 : S = 0
    · subst h0
      go_enter Tryz.func33, Tryz.ntmps33
      go_wp2_with (first | (go_at_call 40; refine (rsize_any h w).mono ?_; rintro e w0 ⟨rfl, rfl⟩; rw [HS.out]))
      go_ret2
      exact ⟨rfl, rfl⟩
    · have b0 : ((S : Int) == 0) = false := by rw [beq_eq_false_iff_ne]; omega
      by_cases h1 : n < 0
      · have b1 : decide (n < 0) = true := decide_eq_true h1
        go_enter Tryz.func33, Tryz.ntmps33
        go_wp2_with (first | (go_at_call 40; refine (rsize_any h w).mono ?_; rintro e w0 ⟨rfl, rfl⟩; rw [HS.out]))
        go_ret2
        exact ⟨rfl, rfl⟩
      · have b1 : decide (n < 0) = false := decide_eq_false h1
        by_cases h2 : 255 * (S : Int) < n
        · have b2 : decide (255 * (S : Int) < n) = true := decide_eq_true h2
          go_enter Tryz.func33, Tryz.ntmps33
          go_wp2_with (first | (go_at_call 40; refine (rsize_any h w).mono ?_; rintro e w0 ⟨rfl, rfl⟩; rw [HS.out]))
          go_ret2
          exact ⟨rfl, rfl⟩
        · have b2 : decide (255 * (S : Int) < n) = false := decide_eq_false h2
          by_cases h3 : 65535 < n
          · have b3 : decide (65535 < n) = true := decide_eq_true h3
            go_enter Tryz.func33, Tryz.ntmps33
            go_wp2_with (first | (go_at_call 40; refine (rsize_any h w).mono ?_; rintro e w0 ⟨rfl, rfl⟩; rw [HS.out]))
            go_ret2
            exact ⟨rfl, rfl⟩
          · have b3 : decide (65535 < n) = false := decide_eq_false h3
            by_cases h4 : 249 < lab.length
            · have b4 : decide ((249 : Int) < (lab.length : Int)) = true := decide_eq_true (by omega)
              go_enter Tryz.func33, Tryz.ntmps33
              go_wp2_with (first | (go_at_call 40; refine (rsize_any h w).mono ?_; rintro e w0 ⟨rfl, rfl⟩; rw [HS.out]))
              go_ret2
              exact ⟨rfl, rfl⟩
            · have b4 : decide ((249 : Int) < (lab.length : Int)) = false := decide_eq_false (by omega)
              have b5 : decide ((255 : Int) < (k : Int)) = true := decide_eq_true (by omega)
              go_enter Tryz.func33, Tryz.ntmps33
              go_wp2_with (first | (go_at_call 40; refine (rsize_any h w).mono ?_; rintro e w0 ⟨rfl, rfl⟩; rw [HS.out]))
              go_ret2
              exact ⟨rfl, rfl⟩
  · have hE : Sched.err h lab ctx n = 0 := by unfold Sched.err; rw [if_neg hre]
    have hX : Sched.expand h key lab ctx n = Mac.expand h key (Sched.info n lab ctx) n.toNat := by unfold Sched.expand; rw [if_neg hre]
    rw [hE, hX]
    clear hE hX
    unfold Sched.refused at hre
    rw [HS.out, Hk.out] at hre
    have b0 : ((S : Int) == 0) = false := by rw [beq_eq_false_iff_ne]; omega
    have b1 : decide (n < 0) = false := decide_eq_false (by omega)
    have b2 : decide (255 * (S : Int) < n) = false := decide_eq_false (by omega)
    have b3 : decide (65535 < n) = false := decide_eq_false (by omega)
    have b4 : decide ((249 : Int) < (lab.length : Int)) = false := decide_eq_false (by omega)
    have b5 : decide ((255 : Int) < (k : Int)) = false := decide_eq_false (by omega)
    have hl : lab.length ≤ 249 := by omega
    have hk : k ≤ 255 := by omega
    have hs : 0 < Sha.size h := by rw [HS.out]; omega
    obtain ⟨n', Hn⟩ : ∃ n' : Nat, Hd (n = (n' : Int)) := ⟨n.toNat, ⟨by omega⟩⟩
    have et : n.toNat = n' := by have := Hn.out; omega
    have hn' : n' ≤ 255 * Sha.size h := by rw [HS.out]; have := Hn.out; omega
    rw [et]
    clear hre et
    obtain ⟨x1, Hx1⟩ : ∃ x, Hd (Sched.byteOf (n / 256) = x) := ⟨_, ⟨rfl⟩⟩
    obtain ⟨x2, Hx2⟩ : ∃ x, Hd (Sched.byteOf n = x) := ⟨_, ⟨rfl⟩⟩
    have hx1 : n / 256 % 256 = ((n8 x1 : Nat) : Int) := by rw [← Hx1.out]; exact mod8 _
    have hx2 : n % 256 = ((n8 x2 : Nat) : Int) := by rw [← Hx2.out]; exact mod8 _
    obtain ⟨L, HL⟩ : ∃ x, Hd (Sched.head6 ++ lab = x) := ⟨_, ⟨rfl⟩⟩
    have HLl := hd (show L.length = 6 + lab.length by rw [← HL.out, List.length_append]; rfl)
    have hst : (⟨#[116, 108, 115, 49, 51, 32]⟩ : ByteArray) ++ str lab = str L := by rw [← HL.out]; exact str_append Sched.head6 lab
    have own2 := OwnB.lit2 (w := w) (Nat.le_refl _) x1 x2
    have hBa := (Below.refl w.heap.size w).alloc (Nat.le_refl _) (.cells #[.int .u8 ((n8 x1 : Nat) : Int), .int .u8 ((n8 x2 : Nat) : Int)] 5)
    obtain ⟨c5, w5, hcv, hr5, hB5⟩ := run_ofStr (w.alloc (.cells #[.int .u8 ((n8 x1 : Nat) : Int), .int .u8 ((n8 x2 : Nat) : Int)] 5)) L
    rw [alloc_size] at hcv hr5
    have own5 := own2.later hB5
    have hBw5 := hBa.trans (hB5.mono hBa.size)
    obtain ⟨CL, HCL⟩ : ∃ x, Hd (Sched.count L = x) := ⟨_, ⟨rfl⟩⟩
    obtain ⟨CC, HCC⟩ : ∃ x, Hd (Sched.count ctx = x) := ⟨_, ⟨rfl⟩⟩
    have HCLl := hd (show CL.length = 7 + lab.length by rw [← HCL.out, Sched.count_len, HLl.out]; omega)
    have HCCl := hd (show CC.length = k + 1 by rw [← HCC.out, Sched.count_len, Hk.out])
    obtain ⟨J, HJ⟩ : ∃ x, Hd ([x1, x2] ++ CL = x) := ⟨_, ⟨rfl⟩⟩
    have HJl := hd (show J.length = 9 + lab.length by rw [← HJ.out, List.length_append, HCLl.out]; show 2 + (7 + lab.length) = _; omega)
    obtain ⟨I, HI⟩ : ∃ x, Hd (Sched.info n lab ctx = x) := ⟨_, ⟨rfl⟩⟩
    have HIe := hd (show J ++ CC = I by rw [← HI.out, ← HJ.out, ← HCL.out, ← HCC.out, Sched.info, Hx1.out, Hx2.out, HL.out])
    have HIl := hd (show I.length = 10 + lab.length + k by rw [← HIe.out, List.length_append, HJl.out, HCCl.out]; omega)
    have hcl1 : [x1, x2].length + CL.length ≤ 140737488355328 := by rw [HCLl.out]; simp; omega
    have hcl2 : J.length + CC.length ≤ 140737488355328 := by rw [HJl.out, HCCl.out]; omega
    rw [HI.out]
    go_enter Tryz.func33, Tryz.ntmps33
    go_wp2_with (first | (go_at_call 47; rw [Hn.out]; refine (rexpand_any h A m c key A9 (10 + lab.length + k) c9 I n' w9 hs hn' ⟨hr.len, (hr.is.below hBw9).more hBw9.size⟩ hm ⟨HIl.out, own9.reads_any.2.is⟩ (by omega)).mono ?_; rintro e w10 ⟨v10, rfl, own10, hB10⟩) | (at_builtin; refine wpl_appendB rfl _ _ rfl w.heap.size v7 J rfl own7' w8.heap.size A8 (k + 1) c8 CC rfl hrd8 hcl2 hBw8.size ?_; intro v9 w9 own9 gr9 at9; rw [HIe.out] at own9; obtain ⟨A9, c9, e9⟩ := own9.slice; rw [HIl.out] at e9; subst e9; have hBw9 := below_appended hBw8 own7' gr9 (Nat.le_refl _) hBw8.size) | (go_at_call 46; refine (rcounted_any D k d ctx w7 hi7 (by omega)).mono ?_; rintro e w8 ⟨v8, rfl, own8, hB8⟩; rw [HCC.out] at own8; obtain ⟨A8, c8, e8⟩ := own8.slice; rw [HCCl.out] at e8; subst e8; have own7' := own7.later hB8; have hBw8 := hBw7.trans (hB8.mono hBw7.size); have hrd8 : ReadsB w8 w8.heap.size A8 (k + 1) CC := ⟨HCCl.out, own8.reads_any.2.is⟩) | (at_builtin; refine wpl_appendB rfl _ _ rfl w.heap.size (.slice (some ⟨w.heap.size, 0, none⟩) 2 2) [x1, x2] rfl own5' w6.heap.size A6 (7 + lab.length) c6 CL rfl hrd6 hcl1 hBw6.size ?_; intro v7 w7 own7 gr7 at7; rw [HJ.out] at own7; have hBw7 := below_appended hBw6 own5' gr7 (Nat.le_refl _) hBw6.size; have hi7 : ReadsB w7 w7.heap.size D k ctx := ⟨hi.len, (hi.is.below hBw7).more hBw7.size⟩) | (go_at_call 46; refine (rcounted_any (some ⟨w.heap.size + 1, 0, none⟩) L.length c5 L w5 hr5 (by rw [HLl.out]; omega)).mono ?_; rintro e w6 ⟨v6, rfl, own6, hB6⟩; rw [HCL.out] at own6; obtain ⟨A6, c6, e6⟩ := own6.slice; rw [HCLl.out] at e6; subst e6; have own5' := own5.later hB6; have hBw6 := hBw5.trans (hB6.mono hBw5.size); have hrd6 : ReadsB w6 w6.heap.size A6 (7 + lab.length) CL := ⟨HCLl.out, own6.reads_any.2.is⟩) | (go_at_call 40; refine (rsize_any h w).mono ?_; rintro e w0 ⟨rfl, rfl⟩; rw [HS.out]))
    go_ret2
    exact ⟨_, rfl, own10.low hBw9.size, hBw9.trans (hB10.mono hBw9.size)⟩
theorem rderive_any (h : Int) (A : Option Addr) (m c : Nat) (key : List UInt8) (lab : List UInt8) (D : Option Addr) (k d : Nat) (ctx : List UInt8) (w : World) (hr : ReadsB w w.heap.size A m key) (hm : m ≤ 140737488353000) (hi : ReadsB w w.heap.size D k ctx) :
    Calls Tryz.prog 27 #[.int .i64 h, .slice A m c, .string (str lab), .slice D k d] w fun e w' => ∃ v, e = .returned v ∧ OwnB w' w.heap.size v (Sched.derive h key lab ctx) ∧ Below w.heap.size w w' := by
  obtain ⟨S, HS⟩ : ∃ x, Hd (Sha.size h = x) := ⟨_, ⟨rfl⟩⟩
  have HX := hd (show Sched.derive h key lab ctx = Sched.expand h key lab ctx (S : Int) by rw [Sched.derive, HS.out])
  go_enter Tryz.func27, Tryz.ntmps27
  go_wp2_with (first | (go_at_call 33; refine (rsexpand_any h A m c key lab D k d ctx (S : Int) w hr hm hi).mono ?_; rintro e w2 ⟨v2, rfl, own2, hB2⟩) | (go_at_call 40; refine (rsize_any h w).mono ?_; rintro e w0 ⟨rfl, rfl⟩; rw [HS.out]))
  go_ret
  exact ⟨_, rfl, by rw [HX.out]; exact own2, hB2⟩
end Go.Proofs.YtbcboldepghgpaaGreatDoor
