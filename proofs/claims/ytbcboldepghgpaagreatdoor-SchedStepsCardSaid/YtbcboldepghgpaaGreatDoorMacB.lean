/-
  A code's maker; codes; what is made of them.
-/
import Derived.Test.YtbcboldepghgpaaGreatDoorMacA
set_option linter.unusedVariables false
set_option linter.unusedSimpArgs false
set_option maxRecDepth 100000
namespace Go.Proofs.YtbcboldepghgpaaGreatDoor
open Go.RowKit
theorem zero_ptr : (Tryz.prog.info? 47).bind (·.zero) = some (.pointer none) := by kernel_rfl
theorem alloc_size (w : World) (o : Obj) : (w.alloc o).heap.size = w.heap.size + 1 := by show (w.heap.push o).size = _; rw [Array.size_push]
theorem parts_one {w : World} {A : Option Addr} {n c : Nat} {t : List UInt8} (hr : ReadsB w w.heap.size A n t) (hn : n ≤ 140737488355000) :
    Parts (w.alloc (.cells #[.slice A n c] 25)) (w.alloc (.cells #[.slice A n c] 25)).heap.size (some ⟨w.heap.size, 0, none⟩) 1 [⟨A, n, c, t⟩] := by
  refine ⟨rfl, fun i hi => ?_⟩
  have e : i = 0 := by omega
  subst e
  have hB := (Below.refl w.heap.size w).alloc (Nat.le_refl _) (.cells #[.slice A n c] 25)
  refine ⟨_, rfl, by rw [alloc_size]; exact Nat.lt_succ_self _, (Blk.nu (w := w) (t := 25) (cs := #[.slice A n c]) rfl).cell 0, ⟨hr.len, (hr.is.below hB).more hB.size⟩, hn⟩
theorem Tabs.alloc {w : World} (h : Tabs w) (o : Obj) : Tabs (w.alloc o) := ⟨h.1.alloc o, h.2.alloc o⟩
theorem DigOff.alloc {w : World} {g z : Nat} {h : Int} {l : List UInt8} (hd : DigOff w w.heap.size g z h l) (o : Obj) : DigOff (w.alloc o) (w.alloc o).heap.size g z h l := hd.below ((Below.refl _ _).alloc (Nat.le_refl _) o)
theorem DigOff.far {w : World} {g z : Nat} {h : Int} {l : List UInt8} (hd : DigOff w w.heap.size g z h l) {b : Nat} (hb : w.heap.size ≤ b) (i : Nat) (v : Value) : DigOff (w.setCell ⟨b, i, none⟩ v) (w.setCell ⟨b, i, none⟩ v).heap.size g z h l := hd.below ((Below.refl _ _).setCell (p := ⟨b, i, none⟩) hb v)

set_option maxHeartbeats 4000000 in
set_option maxRecDepth 100000 in
theorem keyed_any (h : Int) (hh : h = 1 ∨ h = 2 ∨ h = 3) (A : Option Addr) (n c : Nat) (key : List UInt8) (w : World) (hr : ReadsB w w.heap.size A n key) (hn : n ≤ 140737488355000) (htb : Tabs w) :
    Calls Tryz.prog 48 #[.int .i64 h, .slice A n c] w fun e w' => ∃ b1 b2, e = .returned (.func (.func 63) #[] #[.pointer (some ⟨b1, 0, none⟩), .pointer (some ⟨b2, 0, none⟩)]) ∧ Keyed w' h (Mac.padb (Mac.keyOf h key) 54 (Sha.blockLen h)) (Mac.padb (Mac.keyOf h key) 92 (Sha.blockLen h)) b1 b2 ∧ Below w.heap.size w w' := by
  have Hh := hd hh
  clear hh
  have hlen := hr.len
  have hbl := Mac.blockLen_le h
  have hsl := Mac.size_le h
  obtain ⟨bl, Hbl⟩ : ∃ x, Hd (Sha.blockLen h = x) := ⟨_, ⟨rfl⟩⟩
  rw [Hbl.out] at hbl ⊢
  have hmf : ∀ (fn : Fn) (first cap : Array Value) (w : World), (Instr.makeFunc fn first cap).run Tryz.prog w = .ok (.func fn first cap) w := fun _ _ _ _ => rfl
  by_cases hgt : bl < n
  · have tg : (bl : Int) < (n : Int) := by omega
    obtain ⟨K, HK⟩ : ∃ x, Hd (Mac.keyOf h key = x) := ⟨_, ⟨rfl⟩⟩
    have HKe := hd (show Sha.sum h (joined [⟨A, n, c, key⟩]) = K by rw [← HK.out, Mac.keyOf, Hbl.out, if_pos (by rw [hlen]; exact hgt)]; simp [joined])
    have HKl := hd (show K.length = Sha.size h by rw [← HK.out, Mac.keyOf, Hbl.out, if_pos (by rw [hlen]; exact hgt), Sha.sum_len])
    have hp := parts_one (c := c) hr hn
    go_enter Tryz.func48, Tryz.ntmps48
    go_wp2_with (first | (go_at_call 39; refine (new_all h Hh.out u1).mono ?_; rintro e u2 ⟨g2, rfl, eg2, d2, hBu2⟩; have Eg2 := hd eg2; clear eg2) | (go_at_call 39; refine (new_all h Hh.out u0).mono ?_; rintro e u1 ⟨g1, rfl, eg1, d1, hBu1⟩; have Eg1 := hd eg1; clear eg1) | (go_at_call 38; refine (of_any h (some ⟨w.heap.size, 0, none⟩) 1 1 [⟨A, n, c, key⟩] (w.alloc (.cells #[.slice A n c] 25)) hp (by omega) (htb.alloc _)).mono ?_; rintro e u0 ⟨v0, rfl, own0, hBo⟩; rw [HKe.out] at own0; obtain ⟨A0, c0, e0⟩ := own0.slice; rw [HKl.out] at e0; obtain ⟨n0, Hn0⟩ : ∃ x, Hd (Sha.size h = x) := ⟨_, ⟨rfl⟩⟩; rw [Hn0.out] at e0 HKl hsl; subst e0) | (go_at_call 62; refine (block_any h w).mono ?_; rintro e w0 ⟨rfl, rfl⟩; rw [Hbl.out]))
    have hr0 : ReadsB u0 u0.heap.size A0 n0 K := by have h := own0.reads_any; exact h.2
    have hB0 : Below w.heap.size w u0 := ((Below.refl w.heap.size w).alloc (Nat.le_refl _) (.cells #[.slice A n c] 25)).trans (hBo.mono (by rw [alloc_size]; omega))
    clear own0 hBo hp
    have k1 : Blk ((u2.alloc (.cells #[.pointer (some ⟨g1, 0, none⟩)] 47)).alloc (.cells #[.pointer (some ⟨g2, 0, none⟩)] 47)) u2.heap.size 47 #[.pointer (some ⟨g1, 0, none⟩)] := (Blk.nu rfl).alloc _
    have k2 : Blk ((u2.alloc (.cells #[.pointer (some ⟨g1, 0, none⟩)] 47)).alloc (.cells #[.pointer (some ⟨g2, 0, none⟩)] 47)) (u2.heap.size + 1) 47 #[.pointer (some ⟨g2, 0, none⟩)] := Blk.nu (alloc_size _ _).symm
    have hl1 := (d1 0).lt
    have hl2 := (d2 0).lt
    have hs1 := hBu1.size
    have hs2 := hBu2.size
    have hg1e := Eg1.out
    have hg2e := Eg2.out
    have d1 := (((d1 g2).below hBu2).alloc (.cells #[.pointer (some ⟨g1, 0, none⟩)] 47)).alloc (.cells #[.pointer (some ⟨g2, 0, none⟩)] 47)
    have d2 := ((d2 g1).alloc (.cells #[.pointer (some ⟨g1, 0, none⟩)] 47)).alloc (.cells #[.pointer (some ⟨g2, 0, none⟩)] 47)
    have hBu2' : Below u0.heap.size u0 u2 := hBu1.trans (hBu2.mono hs1)
    have hB := (hBu2'.alloc hBu2'.size (.cells #[.pointer (some ⟨g1, 0, none⟩)] 47)).alloc (by rw [alloc_size]; omega) (.cells #[.pointer (some ⟨g2, 0, none⟩)] 47)
    obtain ⟨b1, Hb1⟩ : ∃ x, Hd (u2.heap.size = x) := ⟨_, ⟨rfl⟩⟩
    rw [Hb1.out] at k1 k2 hl2 hs2 ⊢
    obtain ⟨W, HW⟩ : ∃ x, Hd ((u2.alloc (.cells #[.pointer (some ⟨g1, 0, none⟩)] 47)).alloc (.cells #[.pointer (some ⟨g2, 0, none⟩)] 47) = x) := ⟨_, ⟨rfl⟩⟩
    rw [HW.out] at k1 k2 d1 d2 hB ⊢
    have hg10 : u0.heap.size ≤ g1 := by omega
    have hg20 : u0.heap.size ≤ g2 := by omega
    have hg12 : g1 < g2 := by omega
    have hg2b : g2 < b1 := by omega
    clear hg1e hg2e hl1 hl2 hs1 hs2 hBu1 hBu2 hBu2'
    go_loopw [8, 9, 25] (fun _ _ i wr => ∃ k : Nat, k ≤ bl ∧ i = .int .i64 (k : Int) ∧ Blk wr b1 47 #[.pointer (some ⟨g1, 0, none⟩)] ∧ Blk wr (b1 + 1) 47 #[.pointer (some ⟨g2, 0, none⟩)] ∧ DigOff wr wr.heap.size g1 g2 h (Mac.padb K 54 k) ∧ DigOff wr wr.heap.size g2 g1 h (Mac.padb K 92 k) ∧ Below u0.heap.size u0 wr) (fun _ _ i _ => bl - (intOf i).toNat)
    case atStart => exact ⟨0, by omega, rfl, k1, k2, d1, d2, hB⟩
    case round =>
      clear k1 k2 d1 d2 hB
      obtain ⟨k, hk, rfl, k1, k2, d1, d2, hB⟩ := hrel
      by_cases hlt : k < bl
      · have t1 : (k : Int) < (bl : Int) := by omega
        have t2 : (0 : Int) ≤ (k : Int) := by omega
        have wk : IntKind.i64.wrap ((k : Int) + 1) = (k : Int) + 1 := IntWalk.i64_in _ (by omega)
        by_cases hkn : k < n0
        · have t3 : (k : Int) < (n0 : Int) := by omega
          have hrr : ReadsB wr u0.heap.size A0 n0 K := ⟨hr0.len, hr0.is.below hB⟩
          obtain ⟨ad, rfl, hab, hc⟩ := hrr.cell hkn
          obtain ⟨x, Hx⟩ : ∃ x, Hd (nth K k = x) := ⟨_, ⟨rfl⟩⟩
          rw [Hx.out] at hc
          have Hp1 := hd (show Mac.padb K 54 (k + 1) = Mac.padb K 54 k ++ [(x ^^^ 54)] by rw [Mac.padb, Hx.out])
          have Hp2 := hd (show Mac.padb K 92 (k + 1) = Mac.padb K 92 k ++ [(x ^^^ 92)] by rw [Mac.padb, Hx.out])
          have c1 : (wr.alloc (.cells #[.int .u8 ((n8 (x ^^^ 54) : Nat) : Int)] 5)).cell? ⟨b1, 0, none⟩ = some (.pointer (some ⟨g1, 0, none⟩)) := (k1.alloc _).cell 0
          have c1' : wr.cell? ⟨b1, 0, none⟩ = some (.pointer (some ⟨g1, 0, none⟩)) := k1.cell 0
          have hg1w := d1.lt
          have hg2w := d2.lt
          have hb1w := k1.lt
          have hb2w := k2.lt
          have htr := htb.below (hB0.trans (hB.mono hB0.size))
          go_wp2_with (first | (go_at_call 50; refine (write_off g2 g1 h Hh.out (Mac.padb K 92 k) (some ⟨u5.heap.size, 0, none⟩) 1 1 [(x ^^^ 92)] (u5.alloc (.cells #[.int .u8 ((n8 (x ^^^ 92) : Nat) : Int)] 5)) (by rw [alloc_size]; omega) (d2'.alloc _) (htb5.alloc _) (by have h := ReadsB.one u5 (x ^^^ 92); rw [← alloc_size u5 (.cells #[.int .u8 ((n8 (x ^^^ 92) : Nat) : Int)] 5)] at h; exact h) (fun _ ad e => by injection e with e; subst e; show u5.heap.size ≠ g2; omega) (by omega)).mono ?_; rintro e u6 ⟨rfl, d2'', hg6⟩) | (go_at_call 50; refine (write_off g1 g2 h Hh.out (Mac.padb K 54 k) (some ⟨wr.heap.size, 0, none⟩) 1 1 [(x ^^^ 54)] (wr.alloc (.cells #[.int .u8 ((n8 (x ^^^ 54) : Nat) : Int)] 5)) (by rw [alloc_size]; omega) (d1.alloc _) (htr.alloc _) (by have h := ReadsB.one wr (x ^^^ 54); rw [← alloc_size wr (.cells #[.int .u8 ((n8 (x ^^^ 54) : Nat) : Int)] 5)] at h; exact h) (fun _ ad e => by injection e with e; subst e; show wr.heap.size ≠ g1; omega) (by omega)).mono ?_; rintro e u5 ⟨rfl, d1', hg5⟩; have d2' := (d2.alloc (.cells #[.int .u8 ((n8 (x ^^^ 54) : Nat) : Int)] 5)).grown hg5 (by omega); have k15 := (k1.alloc (.cells #[.int .u8 ((n8 (x ^^^ 54) : Nat) : Int)] 5)).grown hg5 (by intro e; injection e; omega); have k25 := (k2.alloc (.cells #[.int .u8 ((n8 (x ^^^ 54) : Nat) : Int)] 5)).grown hg5 (by intro e; injection e; omega); have c2 : u5.cell? ⟨b1 + 1, 0, none⟩ = some (.pointer (some ⟨g2, 0, none⟩)) := k25.cell 0; have hB5 := (hB.alloc hB.size (.cells #[.int .u8 ((n8 (x ^^^ 54) : Nat) : Int)] 5)).grown hg5 (by rw [alloc_size]; have := hB.size; omega) (fun k hk => by injection hk; omega); have htb5 := htb.below (hB0.trans (hB5.mono hB0.size)); have hs5 := hg5.size; rw [alloc_size] at hs5))
          have d1'' := (d1'.alloc (.cells #[.int .u8 ((n8 (x ^^^ 92) : Nat) : Int)] 5)).grown hg6 (by omega)
          have k16 := (k15.alloc (.cells #[.int .u8 ((n8 (x ^^^ 92) : Nat) : Int)] 5)).grown hg6 (by intro e; injection e; omega)
          have k26 := (k25.alloc (.cells #[.int .u8 ((n8 (x ^^^ 92) : Nat) : Int)] 5)).grown hg6 (by intro e; injection e; omega)
          have hB6 := (hB5.alloc hB5.size (.cells #[.int .u8 ((n8 (x ^^^ 92) : Nat) : Int)] 5)).grown hg6 (by rw [alloc_size]; have := hB5.size; omega) (fun k hk => by injection hk; omega)
          go_roundw
          case rel => exact ⟨k + 1, by omega, by congr 1 <;> omega, k16, k26, by rw [Hp1.out]; exact d1'', by rw [Hp2.out]; exact d2'', hB6⟩
          case measure => simp [intOf] <;> omega
        · have t3 : ¬ (k : Int) < (n0 : Int) := by omega
          have Hx := hd (show nth K k = 0 by unfold nth; rw [List.getD_eq_getElem?_getD, List.getElem?_eq_none (by rw [hr0.len]; omega)]; rfl)
          have Hp1 := hd (show Mac.padb K 54 (k + 1) = Mac.padb K 54 k ++ [54] by rw [Mac.padb, Hx.out]; rfl)
          have Hp2 := hd (show Mac.padb K 92 (k + 1) = Mac.padb K 92 k ++ [92] by rw [Mac.padb, Hx.out]; rfl)
          have c1 : (wr.alloc (.cells #[.int .u8 54] 5)).cell? ⟨b1, 0, none⟩ = some (.pointer (some ⟨g1, 0, none⟩)) := (k1.alloc _).cell 0
          have c1' : wr.cell? ⟨b1, 0, none⟩ = some (.pointer (some ⟨g1, 0, none⟩)) := k1.cell 0
          have hg1w := d1.lt
          have hg2w := d2.lt
          have hb1w := k1.lt
          have hb2w := k2.lt
          have htr := htb.below (hB0.trans (hB.mono hB0.size))
          go_wp2_with (first | (go_at_call 50; refine (write_off g2 g1 h Hh.out (Mac.padb K 92 k) (some ⟨u5.heap.size, 0, none⟩) 1 1 [92] (u5.alloc (.cells #[.int .u8 92] 5)) (by rw [alloc_size]; omega) (d2'.alloc _) (htb5.alloc _) (by have h := ReadsB.one u5 92; rw [← alloc_size u5 (.cells #[.int .u8 ((n8 92 : Nat) : Int)] 5)] at h; exact h) (fun _ ad e => by injection e with e; subst e; show u5.heap.size ≠ g2; omega) (by omega)).mono ?_; rintro e u6 ⟨rfl, d2'', hg6⟩) | (go_at_call 50; refine (write_off g1 g2 h Hh.out (Mac.padb K 54 k) (some ⟨wr.heap.size, 0, none⟩) 1 1 [54] (wr.alloc (.cells #[.int .u8 54] 5)) (by rw [alloc_size]; omega) (d1.alloc _) (htr.alloc _) (by have h := ReadsB.one wr 54; rw [← alloc_size wr (.cells #[.int .u8 ((n8 54 : Nat) : Int)] 5)] at h; exact h) (fun _ ad e => by injection e with e; subst e; show wr.heap.size ≠ g1; omega) (by omega)).mono ?_; rintro e u5 ⟨rfl, d1', hg5⟩; have d2' := (d2.alloc (.cells #[.int .u8 54] 5)).grown hg5 (by omega); have k15 := (k1.alloc (.cells #[.int .u8 54] 5)).grown hg5 (by intro e; injection e; omega); have k25 := (k2.alloc (.cells #[.int .u8 54] 5)).grown hg5 (by intro e; injection e; omega); have c2 : u5.cell? ⟨b1 + 1, 0, none⟩ = some (.pointer (some ⟨g2, 0, none⟩)) := k25.cell 0; have hB5 := (hB.alloc hB.size (.cells #[.int .u8 54] 5)).grown hg5 (by rw [alloc_size]; have := hB.size; omega) (fun k hk => by injection hk; omega); have htb5 := htb.below (hB0.trans (hB5.mono hB0.size)); have hs5 := hg5.size; rw [alloc_size] at hs5))
          have d1'' := (d1'.alloc (.cells #[.int .u8 92] 5)).grown hg6 (by omega)
          have k16 := (k15.alloc (.cells #[.int .u8 92] 5)).grown hg6 (by intro e; injection e; omega)
          have k26 := (k25.alloc (.cells #[.int .u8 92] 5)).grown hg6 (by intro e; injection e; omega)
          have hB6 := (hB5.alloc hB5.size (.cells #[.int .u8 92] 5)).grown hg6 (by rw [alloc_size]; have := hB5.size; omega) (fun k hk => by injection hk; omega)
          go_roundw
          case rel => exact ⟨k + 1, by omega, by congr 1 <;> omega, k16, k26, by rw [Hp1.out]; exact d1'', by rw [Hp2.out]; exact d2'', hB6⟩
          case measure => simp [intOf] <;> omega
      · have ek : k = bl := by omega
        have t1 : ¬ (k : Int) < (bl : Int) := by omega
        go_wp2
        go_ret
        rw [ek] at d1 d2
        refine ⟨b1, b1 + 1, rfl, ?_, hB0.trans (hB.mono hB0.size)⟩
        rw [HK.out]
        exact ⟨g1, g2, k1, k2, d1.at_, d2.at_⟩
  · have tg : ¬ (bl : Int) < (n : Int) := by omega
    obtain ⟨K, HK⟩ : ∃ x, Hd (Mac.keyOf h key = x) := ⟨_, ⟨rfl⟩⟩
    have HKe := hd (show key = K by rw [← HK.out, Mac.keyOf, Hbl.out, if_neg (by rw [hlen]; exact hgt)])
    go_enter Tryz.func48, Tryz.ntmps48
    go_wp2_with (first | (go_at_call 39; refine (new_all h Hh.out u1).mono ?_; rintro e u2 ⟨g2, rfl, eg2, d2, hBu2⟩; have Eg2 := hd eg2; clear eg2) | (go_at_call 39; refine (new_all h Hh.out w).mono ?_; rintro e u1 ⟨g1, rfl, eg1, d1, hBu1⟩; have Eg1 := hd eg1; clear eg1) | (go_at_call 62; refine (block_any h w).mono ?_; rintro e w0 ⟨rfl, rfl⟩; rw [Hbl.out]))
    have hr0 : ReadsB w w.heap.size A n K := by rw [← HKe.out]; exact hr
    have hB0 : Below w.heap.size w w := Below.refl _ _
    have k1 : Blk ((u2.alloc (.cells #[.pointer (some ⟨g1, 0, none⟩)] 47)).alloc (.cells #[.pointer (some ⟨g2, 0, none⟩)] 47)) u2.heap.size 47 #[.pointer (some ⟨g1, 0, none⟩)] := (Blk.nu rfl).alloc _
    have k2 : Blk ((u2.alloc (.cells #[.pointer (some ⟨g1, 0, none⟩)] 47)).alloc (.cells #[.pointer (some ⟨g2, 0, none⟩)] 47)) (u2.heap.size + 1) 47 #[.pointer (some ⟨g2, 0, none⟩)] := Blk.nu (alloc_size _ _).symm
    have hl1 := (d1 0).lt
    have hl2 := (d2 0).lt
    have hs1 := hBu1.size
    have hs2 := hBu2.size
    have hg1e := Eg1.out
    have hg2e := Eg2.out
    have d1 := (((d1 g2).below hBu2).alloc (.cells #[.pointer (some ⟨g1, 0, none⟩)] 47)).alloc (.cells #[.pointer (some ⟨g2, 0, none⟩)] 47)
    have d2 := ((d2 g1).alloc (.cells #[.pointer (some ⟨g1, 0, none⟩)] 47)).alloc (.cells #[.pointer (some ⟨g2, 0, none⟩)] 47)
    have hBu2' : Below w.heap.size w u2 := hBu1.trans (hBu2.mono hs1)
    have hB := (hBu2'.alloc hBu2'.size (.cells #[.pointer (some ⟨g1, 0, none⟩)] 47)).alloc (by rw [alloc_size]; omega) (.cells #[.pointer (some ⟨g2, 0, none⟩)] 47)
    obtain ⟨b1, Hb1⟩ : ∃ x, Hd (u2.heap.size = x) := ⟨_, ⟨rfl⟩⟩
    rw [Hb1.out] at k1 k2 hl2 hs2 ⊢
    obtain ⟨W, HW⟩ : ∃ x, Hd ((u2.alloc (.cells #[.pointer (some ⟨g1, 0, none⟩)] 47)).alloc (.cells #[.pointer (some ⟨g2, 0, none⟩)] 47) = x) := ⟨_, ⟨rfl⟩⟩
    rw [HW.out] at k1 k2 d1 d2 hB ⊢
    have hg10 : w.heap.size ≤ g1 := by omega
    have hg20 : w.heap.size ≤ g2 := by omega
    have hg12 : g1 < g2 := by omega
    have hg2b : g2 < b1 := by omega
    clear hg1e hg2e hl1 hl2 hs1 hs2 hBu1 hBu2 hBu2'
    go_loopw [8, 9, 25] (fun _ _ i wr => ∃ k : Nat, k ≤ bl ∧ i = .int .i64 (k : Int) ∧ Blk wr b1 47 #[.pointer (some ⟨g1, 0, none⟩)] ∧ Blk wr (b1 + 1) 47 #[.pointer (some ⟨g2, 0, none⟩)] ∧ DigOff wr wr.heap.size g1 g2 h (Mac.padb K 54 k) ∧ DigOff wr wr.heap.size g2 g1 h (Mac.padb K 92 k) ∧ Below w.heap.size w wr) (fun _ _ i _ => bl - (intOf i).toNat)
    case atStart => exact ⟨0, by omega, rfl, k1, k2, d1, d2, hB⟩
    case round =>
      clear k1 k2 d1 d2 hB
      obtain ⟨k, hk, rfl, k1, k2, d1, d2, hB⟩ := hrel
      by_cases hlt : k < bl
      · have t1 : (k : Int) < (bl : Int) := by omega
        have t2 : (0 : Int) ≤ (k : Int) := by omega
        have wk : IntKind.i64.wrap ((k : Int) + 1) = (k : Int) + 1 := IntWalk.i64_in _ (by omega)
        by_cases hkn : k < n
        · have t3 : (k : Int) < (n : Int) := by omega
          have hrr : ReadsB wr w.heap.size A n K := ⟨hr0.len, hr0.is.below hB⟩
          obtain ⟨ad, rfl, hab, hc⟩ := hrr.cell hkn
          obtain ⟨x, Hx⟩ : ∃ x, Hd (nth K k = x) := ⟨_, ⟨rfl⟩⟩
          rw [Hx.out] at hc
          have Hp1 := hd (show Mac.padb K 54 (k + 1) = Mac.padb K 54 k ++ [(x ^^^ 54)] by rw [Mac.padb, Hx.out])
          have Hp2 := hd (show Mac.padb K 92 (k + 1) = Mac.padb K 92 k ++ [(x ^^^ 92)] by rw [Mac.padb, Hx.out])
          have c1 : (wr.alloc (.cells #[.int .u8 ((n8 (x ^^^ 54) : Nat) : Int)] 5)).cell? ⟨b1, 0, none⟩ = some (.pointer (some ⟨g1, 0, none⟩)) := (k1.alloc _).cell 0
          have c1' : wr.cell? ⟨b1, 0, none⟩ = some (.pointer (some ⟨g1, 0, none⟩)) := k1.cell 0
          have hg1w := d1.lt
          have hg2w := d2.lt
          have hb1w := k1.lt
          have hb2w := k2.lt
          have htr := htb.below (hB0.trans (hB.mono hB0.size))
          go_wp2_with (first | (go_at_call 50; refine (write_off g2 g1 h Hh.out (Mac.padb K 92 k) (some ⟨u5.heap.size, 0, none⟩) 1 1 [(x ^^^ 92)] (u5.alloc (.cells #[.int .u8 ((n8 (x ^^^ 92) : Nat) : Int)] 5)) (by rw [alloc_size]; omega) (d2'.alloc _) (htb5.alloc _) (by have h := ReadsB.one u5 (x ^^^ 92); rw [← alloc_size u5 (.cells #[.int .u8 ((n8 (x ^^^ 92) : Nat) : Int)] 5)] at h; exact h) (fun _ ad e => by injection e with e; subst e; show u5.heap.size ≠ g2; omega) (by omega)).mono ?_; rintro e u6 ⟨rfl, d2'', hg6⟩) | (go_at_call 50; refine (write_off g1 g2 h Hh.out (Mac.padb K 54 k) (some ⟨wr.heap.size, 0, none⟩) 1 1 [(x ^^^ 54)] (wr.alloc (.cells #[.int .u8 ((n8 (x ^^^ 54) : Nat) : Int)] 5)) (by rw [alloc_size]; omega) (d1.alloc _) (htr.alloc _) (by have h := ReadsB.one wr (x ^^^ 54); rw [← alloc_size wr (.cells #[.int .u8 ((n8 (x ^^^ 54) : Nat) : Int)] 5)] at h; exact h) (fun _ ad e => by injection e with e; subst e; show wr.heap.size ≠ g1; omega) (by omega)).mono ?_; rintro e u5 ⟨rfl, d1', hg5⟩; have d2' := (d2.alloc (.cells #[.int .u8 ((n8 (x ^^^ 54) : Nat) : Int)] 5)).grown hg5 (by omega); have k15 := (k1.alloc (.cells #[.int .u8 ((n8 (x ^^^ 54) : Nat) : Int)] 5)).grown hg5 (by intro e; injection e; omega); have k25 := (k2.alloc (.cells #[.int .u8 ((n8 (x ^^^ 54) : Nat) : Int)] 5)).grown hg5 (by intro e; injection e; omega); have c2 : u5.cell? ⟨b1 + 1, 0, none⟩ = some (.pointer (some ⟨g2, 0, none⟩)) := k25.cell 0; have hB5 := (hB.alloc hB.size (.cells #[.int .u8 ((n8 (x ^^^ 54) : Nat) : Int)] 5)).grown hg5 (by rw [alloc_size]; have := hB.size; omega) (fun k hk => by injection hk; omega); have htb5 := htb.below (hB0.trans (hB5.mono hB0.size)); have hs5 := hg5.size; rw [alloc_size] at hs5))
          have d1'' := (d1'.alloc (.cells #[.int .u8 ((n8 (x ^^^ 92) : Nat) : Int)] 5)).grown hg6 (by omega)
          have k16 := (k15.alloc (.cells #[.int .u8 ((n8 (x ^^^ 92) : Nat) : Int)] 5)).grown hg6 (by intro e; injection e; omega)
          have k26 := (k25.alloc (.cells #[.int .u8 ((n8 (x ^^^ 92) : Nat) : Int)] 5)).grown hg6 (by intro e; injection e; omega)
          have hB6 := (hB5.alloc hB5.size (.cells #[.int .u8 ((n8 (x ^^^ 92) : Nat) : Int)] 5)).grown hg6 (by rw [alloc_size]; have := hB5.size; omega) (fun k hk => by injection hk; omega)
          go_roundw
          case rel => exact ⟨k + 1, by omega, by congr 1 <;> omega, k16, k26, by rw [Hp1.out]; exact d1'', by rw [Hp2.out]; exact d2'', hB6⟩
          case measure => simp [intOf] <;> omega
        · have t3 : ¬ (k : Int) < (n : Int) := by omega
          have Hx := hd (show nth K k = 0 by unfold nth; rw [List.getD_eq_getElem?_getD, List.getElem?_eq_none (by rw [hr0.len]; omega)]; rfl)
          have Hp1 := hd (show Mac.padb K 54 (k + 1) = Mac.padb K 54 k ++ [54] by rw [Mac.padb, Hx.out]; rfl)
          have Hp2 := hd (show Mac.padb K 92 (k + 1) = Mac.padb K 92 k ++ [92] by rw [Mac.padb, Hx.out]; rfl)
          have c1 : (wr.alloc (.cells #[.int .u8 54] 5)).cell? ⟨b1, 0, none⟩ = some (.pointer (some ⟨g1, 0, none⟩)) := (k1.alloc _).cell 0
          have c1' : wr.cell? ⟨b1, 0, none⟩ = some (.pointer (some ⟨g1, 0, none⟩)) := k1.cell 0
          have hg1w := d1.lt
          have hg2w := d2.lt
          have hb1w := k1.lt
          have hb2w := k2.lt
          have htr := htb.below (hB0.trans (hB.mono hB0.size))
          go_wp2_with (first | (go_at_call 50; refine (write_off g2 g1 h Hh.out (Mac.padb K 92 k) (some ⟨u5.heap.size, 0, none⟩) 1 1 [92] (u5.alloc (.cells #[.int .u8 92] 5)) (by rw [alloc_size]; omega) (d2'.alloc _) (htb5.alloc _) (by have h := ReadsB.one u5 92; rw [← alloc_size u5 (.cells #[.int .u8 ((n8 92 : Nat) : Int)] 5)] at h; exact h) (fun _ ad e => by injection e with e; subst e; show u5.heap.size ≠ g2; omega) (by omega)).mono ?_; rintro e u6 ⟨rfl, d2'', hg6⟩) | (go_at_call 50; refine (write_off g1 g2 h Hh.out (Mac.padb K 54 k) (some ⟨wr.heap.size, 0, none⟩) 1 1 [54] (wr.alloc (.cells #[.int .u8 54] 5)) (by rw [alloc_size]; omega) (d1.alloc _) (htr.alloc _) (by have h := ReadsB.one wr 54; rw [← alloc_size wr (.cells #[.int .u8 ((n8 54 : Nat) : Int)] 5)] at h; exact h) (fun _ ad e => by injection e with e; subst e; show wr.heap.size ≠ g1; omega) (by omega)).mono ?_; rintro e u5 ⟨rfl, d1', hg5⟩; have d2' := (d2.alloc (.cells #[.int .u8 54] 5)).grown hg5 (by omega); have k15 := (k1.alloc (.cells #[.int .u8 54] 5)).grown hg5 (by intro e; injection e; omega); have k25 := (k2.alloc (.cells #[.int .u8 54] 5)).grown hg5 (by intro e; injection e; omega); have c2 : u5.cell? ⟨b1 + 1, 0, none⟩ = some (.pointer (some ⟨g2, 0, none⟩)) := k25.cell 0; have hB5 := (hB.alloc hB.size (.cells #[.int .u8 54] 5)).grown hg5 (by rw [alloc_size]; have := hB.size; omega) (fun k hk => by injection hk; omega); have htb5 := htb.below (hB0.trans (hB5.mono hB0.size)); have hs5 := hg5.size; rw [alloc_size] at hs5))
          have d1'' := (d1'.alloc (.cells #[.int .u8 92] 5)).grown hg6 (by omega)
          have k16 := (k15.alloc (.cells #[.int .u8 92] 5)).grown hg6 (by intro e; injection e; omega)
          have k26 := (k25.alloc (.cells #[.int .u8 92] 5)).grown hg6 (by intro e; injection e; omega)
          have hB6 := (hB5.alloc hB5.size (.cells #[.int .u8 92] 5)).grown hg6 (by rw [alloc_size]; have := hB5.size; omega) (fun k hk => by injection hk; omega)
          go_roundw
          case rel => exact ⟨k + 1, by omega, by congr 1 <;> omega, k16, k26, by rw [Hp1.out]; exact d1'', by rw [Hp2.out]; exact d2'', hB6⟩
          case measure => simp [intOf] <;> omega
      · have ek : k = bl := by omega
        have t1 : ¬ (k : Int) < (bl : Int) := by omega
        go_wp2
        go_ret
        rw [ek] at d1 d2
        refine ⟨b1, b1 + 1, rfl, ?_, hB0.trans (hB.mono hB0.size)⟩
        rw [HK.out]
        exact ⟨g1, g2, k1, k2, d1.at_, d2.at_⟩


theorem Parts.wide {w : World} {B B' : Nat} {A : Option Addr} {n : Nat} {ps : List Part} (h : Parts w B A n ps) (hB : B ≤ B') : Parts w B' A n ps :=
  ⟨h.len, fun i hi => by
    obtain ⟨ad, e, hlt, hc, hr, hn⟩ := h.is i hi
    exact ⟨ad, e, Nat.lt_of_lt_of_le hlt hB, hc, ⟨hr.len, hr.is.more hB⟩, hn⟩⟩
theorem Mac.code_none {h : Int} (h1 : ¬ h = 1) (h2 : ¬ h = 2) (h3 : ¬ h = 3) (key l : List UInt8) : Mac.code h key l = [] := Sha.sum_none h1 h2 h3 _
theorem Mac.size_none {h : Int} (h1 : ¬ h = 1) (h2 : ¬ h = 2) (h3 : ¬ h = 3) : Sha.size h = 0 := by unfold Sha.size; rw [if_neg h1, if_neg h2, if_neg h3]
/-- mac.Of, of any hash. -/
theorem macOf_any (h : Int) (A : Option Addr) (n c : Nat) (key : List UInt8) (PA : Option Addr) (pn pc : Nat) (ps : List Part) (w : World) (hr : ReadsB w w.heap.size A n key) (hn : n ≤ 140737488355000) (hp : Parts w w.heap.size PA pn ps) (hpn : pn ≤ 1000000) (htb : Tabs w) :
    Calls Tryz.prog 36 #[.int .i64 h, .slice A n c, .slice PA pn pc] w fun e w' => ∃ v, e = .returned v ∧ OwnB w' w.heap.size v (Mac.code h key (joined ps)) ∧ Below w.heap.size w w' := by
  obtain ⟨S, HS⟩ : ∃ x, Hd (Sha.size h = x) := ⟨_, ⟨rfl⟩⟩
  by_cases hh : h = 1 ∨ h = 2 ∨ h = 3
  · have hs := Mac.size_pos hh
    have Hh := hd hh
    clear hh
    rw [HS.out] at hs
    have hs0 : ¬ (S : Int) = 0 := by omega
    go_enter Tryz.func36, Tryz.ntmps36
    go_wp2_with (first | (go_at_call 63; refine (code_any h Hh.out _ _ b1 b2 PA pn pc ps w1 hk ((hp.below hB1).wide hB1.size) hpn (htb.below hB1)).mono ?_; rintro e w2 ⟨v2, rfl, own2, hB2⟩) | (go_at_call 48; refine (keyed_any h Hh.out A n c key w hr hn htb).mono ?_; rintro e w1 ⟨b1, b2, rfl, hk, hB1⟩) | (go_at_call 22; refine (size_any h w).mono ?_; rintro e w0 ⟨rfl, rfl⟩; rw [HS.out]))
    go_ret
    exact ⟨_, rfl, own2.low hB1.size, hB1.trans (hB2.mono hB1.size)⟩
  · have h1 : ¬ h = 1 := fun e => hh (.inl e)
    have h2 : ¬ h = 2 := fun e => hh (.inr (.inl e))
    have h3 : ¬ h = 3 := fun e => hh (.inr (.inr e))
    have hs : S = 0 := by rw [← HS.out, Mac.size_none h1 h2 h3]
    subst hs
    go_enter Tryz.func36, Tryz.ntmps36
    go_wp2_with (first | (go_at_call 22; refine (size_any h w).mono ?_; rintro e w0 ⟨rfl, rfl⟩; rw [HS.out]))
    go_ret
    exact ⟨_, rfl, by rw [Mac.code_none h1 h2 h3]; exact OwnB.nil _ _, Below.refl _ _⟩
theorem joined_one (p : Part) : joined [p] = p.t := by simp [joined]
/-- mac.Extract. -/
theorem extract_any (h : Int) (A : Option Addr) (n c : Nat) (key : List UInt8) (D : Option Addr) (m d : Nat) (sec : List UInt8) (w : World) (hr : ReadsB w w.heap.size A n key) (hn : n ≤ 140737488355000) (hs : ReadsB w w.heap.size D m sec) (hm : m ≤ 140737488355000) (htb : Tabs w) :
    Calls Tryz.prog 23 #[.int .i64 h, .slice A n c, .slice D m d] w fun e w' => ∃ v, e = .returned v ∧ OwnB w' w.heap.size v (Mac.code h key sec) ∧ Below w.heap.size w w' := by
  have hB : Below w.heap.size w (w.alloc (.cells #[.slice D m d] 25)) := (Below.refl _ _).alloc (Nat.le_refl _) _
  have hr' : ReadsB (w.alloc (.cells #[.slice D m d] 25)) (w.alloc (.cells #[.slice D m d] 25)).heap.size A n key := ⟨hr.len, (hr.is.below hB).more hB.size⟩
  have hp := parts_one (c := d) hs hm
  go_enter Tryz.func23, Tryz.ntmps23
  go_wp2_with (first | (go_at_call 36; refine (macOf_any h A n c key (some ⟨w.heap.size, 0, none⟩) 1 1 [⟨D, m, d, sec⟩] (w.alloc (.cells #[.slice D m d] 25)) hr' hn hp (by omega) (htb.alloc _)).mono ?_; rintro e w1 ⟨v1, rfl, own1, hB1⟩))
  go_ret
  rw [joined_one] at own1
  exact ⟨_, rfl, own1.low hB.size, hB.trans (hB1.mono hB.size)⟩
end Go.Proofs.YtbcboldepghgpaaGreatDoor
