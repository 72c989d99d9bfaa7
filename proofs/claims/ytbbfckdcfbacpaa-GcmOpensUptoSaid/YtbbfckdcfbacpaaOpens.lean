/-
  The walk of the statement GcmOpens.
-/
import Derived.Test.YtbbfckdcfbacpaaSeals
import Derived.Test.YtbbfckdcfbacpaaOpenR
set_option linter.unusedVariables false
set_option linter.unusedSimpArgs false
namespace Go.Proofs.Ytbbfckdcfbacpaa
open Go.RowKit
set_option maxHeartbeats 8000000 in
set_option maxRecDepth 100000 in
theorem opens_refused0 (A : Option Addr) (n c : Nat) (key nonce : List UInt8) (hn : nonce.length = 12) (D : Option Addr) (p q : Nat) (aside : List UInt8) (E : Option Addr) (m d : Nat) (sealed : List UInt8) (at_ : UInt16) (by_ : UInt8) (w : World) (h16 : n ≠ 16) (h32 : n ≠ 32) (ht : ReadsB w w.heap.size E m sealed) (hmd : m ≤ d) (hm : d ≤ 1048576) (hm0 : m = 0) :
    Calls Try.prog 11 #[.slice A n c, .agg (arr nonce), .slice D p q, .slice E m d, .int .u16 ((n16 at_ : Nat) : Int), .int .u8 ((n8 by_ : Nat) : Int)] w fun e w' => e = .returned (.bool true) ∧ Below w.heap.size w w' := by
  have Hn := hd hn
  have Htl := hd ht.len
  clear hn
  have hB0 := (Below.refl w.heap.size w).alloc (Nat.le_refl _) (.cells (arr nonce) 46)
  have b0 : Blk (w.alloc (.cells (arr nonce) 46)) w.heap.size 46 (arr nonce) := Blk.nu rfl
  go_enter Try.func11, Try.ntmps11
  go_wp2_with fail
  refine (head8_any _).mono ?_
  rintro e w1 ⟨rfl, hB1⟩
  have b1 := b0.below hB1 b0.lt
  have hB1' := hB0.trans (hB1.mono hB0.size)
  have ht1 := ht.onward hB1'
  have own0 := OwnB.empty (w := w1) (Nat.le_refl w1.heap.size)
  have hr1 : ReadsB (w1.alloc (.cells #[] 5)) w1.heap.size E m sealed := ⟨ht1.len, ht1.is.alloc (Nat.le_refl _) _⟩
  have hcl : ([] : List UInt8).length + sealed.length ≤ 140737488355328 := by rw [Htl.out]; simp; omega
  have hBs : w1.heap.size ≤ (w1.alloc (.cells #[] 5)).heap.size := by simp
  have hBb := (Below.refl w1.heap.size w1).alloc (Nat.le_refl _) (.cells #[] 5)
  clear b0 hB0 hB1 ht1
  have H16 := hd h16
  have H32 := hd h32
  clear h16 h32
  have e0 : sealed = [] := List.eq_nil_of_length_eq_zero (by rw [Htl.out]; exact hm0)
  subst e0
  have HSl := hd (show ([] : List UInt8).length = m by rw [hm0]; rfl)
  obtain ⟨S, HS⟩ : ∃ l, Hd (([] : List UInt8) = l) := ⟨_, ⟨rfl⟩⟩
  rw [HS.out] at HSl
  have tz : ¬ (0 : Int) < (m : Int) := by omega
  have Hm0 := hd hm0
  clear hm0
  go_wp2_with (first | (at_builtin; refine wpl_appendB rfl _ _ rfl w1.heap.size (.slice (some ⟨w1.heap.size, 0, none⟩) 0 0) [] rfl own0 w1.heap.size E m d [] rfl hr1 hcl hBs ?_; intro v2 w2 own2 gr2 at2; rw [List.nil_append] at own2; have hB2 := below_appended hBb own0 gr2 (Nat.le_refl _) hBs; have b2 := b1.below hB2 b1.lt; have hBw2 := hB1'.trans (hB2.mono hB1'.size); obtain ⟨A2, c2, e2⟩ := own2.slice; rw [Htl.out] at e2; subst e2; rw [HS.out] at own2; have hc2 : m ≤ c2 := (by have := Hm0.out; omega); clear own0 gr2 at2 hr1 hBb) | (go_at_call 27; refine (open_refused A n c nonce Hn.out _ _ _ H16.out H32.out).mono ?_; rintro e w3 ⟨rfl, hB3⟩; have b3 := b2.below hB3 b2.lt; have hBw3 := hBw2.trans (hB3.mono hBw2.size)) | (go_at_call 28; have hx := hBw3; clear hx; refine (ropen_refused A n c nonce _ _ _ H16.out H32.out).mono ?_; rintro e w4 ⟨rfl, hB4⟩; have hBw4 := hBw3.trans (hB4.mono hBw3.size)) | (refine wpl_load_arr rfl 46 _ rfl _ rfl 12 ty12 nonce Hn.out b3.cells_arr ?_) | (refine wpl_load_arr rfl 46 _ rfl _ rfl 12 ty12 nonce Hn.out b2.cells_arr ?_) | (refine wpl_valueGd (run_toStr rfl Try.underlying22 Try.underlying5 Try.underlying9 _ none 0 0 [] rfl (readsB_none w4)) rfl ?_) | (refine wpl_valueGd (run_neqStr rfl [] [] rfl rfl true rfl) rfl ?_))
  go_ret
  exact ⟨rfl, hBw4⟩
set_option maxHeartbeats 8000000 in
set_option maxRecDepth 100000 in
theorem opens_refused1 (A : Option Addr) (n c : Nat) (key nonce : List UInt8) (hn : nonce.length = 12) (D : Option Addr) (p q : Nat) (aside : List UInt8) (E : Option Addr) (m d : Nat) (sealed : List UInt8) (at_ : UInt16) (by_ : UInt8) (w : World) (h16 : n ≠ 16) (h32 : n ≠ 32) (ht : ReadsB w w.heap.size E m sealed) (hmd : m ≤ d) (hm : d ≤ 1048576) (hm0 : 0 < m) :
    Calls Try.prog 11 #[.slice A n c, .agg (arr nonce), .slice D p q, .slice E m d, .int .u16 ((n16 at_ : Nat) : Int), .int .u8 ((n8 by_ : Nat) : Int)] w fun e w' => e = .returned (.bool true) ∧ Below w.heap.size w w' := by
  have Hn := hd hn
  have Htl := hd ht.len
  clear hn
  have hB0 := (Below.refl w.heap.size w).alloc (Nat.le_refl _) (.cells (arr nonce) 46)
  have b0 : Blk (w.alloc (.cells (arr nonce) 46)) w.heap.size 46 (arr nonce) := Blk.nu rfl
  go_enter Try.func11, Try.ntmps11
  go_wp2_with fail
  refine (head8_any _).mono ?_
  rintro e w1 ⟨rfl, hB1⟩
  have b1 := b0.below hB1 b0.lt
  have hB1' := hB0.trans (hB1.mono hB0.size)
  have ht1 := ht.onward hB1'
  have own0 := OwnB.empty (w := w1) (Nat.le_refl w1.heap.size)
  have hr1 : ReadsB (w1.alloc (.cells #[] 5)) w1.heap.size E m sealed := ⟨ht1.len, ht1.is.alloc (Nat.le_refl _) _⟩
  have hcl : ([] : List UInt8).length + sealed.length ≤ 140737488355328 := by rw [Htl.out]; simp; omega
  have hBs : w1.heap.size ≤ (w1.alloc (.cells #[] 5)).heap.size := by simp
  have hBb := (Below.refl w1.heap.size w1).alloc (Nat.le_refl _) (.cells #[] 5)
  clear b0 hB0 hB1 ht1
  have H16 := hd h16
  have H32 := hd h32
  clear h16 h32
  have tz : (0 : Int) < (m : Int) := by omega
  obtain ⟨k, HK⟩ : ∃ k, Hd ((n16 at_) % m = k) := ⟨_, ⟨rfl⟩⟩
  have hkm : k < m := by rw [← HK.out]; exact Nat.mod_lt _ hm0
  have hat := n16_lt at_
  have v1 : IntKind.i64.wrap ((n16 at_ : Nat) : Int) = ((n16 at_ : Nat) : Int) := IntWalk.i64_in _ (by omega)
  have v2 : ((n16 at_ : Nat) : Int).tmod (m : Int) = (k : Int) := by rw [Int.tmod_eq_emod_of_nonneg (by omega), ← HK.out]; exact (Int.natCast_emod _ _).symm
  have v3 : IntKind.i64.wrap (k : Int) = (k : Int) := IntWalk.i64_in _ (by omega)
  have v4 : (k : Int) < (m : Int) := by omega
  have v5 : ¬ (m : Int) = 0 := by omega
  obtain ⟨S, HS⟩ : ∃ l, Hd (sealed.set k (nth sealed k ^^^ by_) = l) := ⟨_, ⟨rfl⟩⟩
  have HSl := hd (show S.length = m by rw [← HS.out, List.length_set, Htl.out])
  go_wp2_with (first | (at_builtin; refine wpl_appendB rfl _ _ rfl w1.heap.size (.slice (some ⟨w1.heap.size, 0, none⟩) 0 0) [] rfl own0 w1.heap.size E m d sealed rfl hr1 hcl hBs ?_; intro v2 w2 own2 gr2 at2; rw [List.nil_append] at own2; have hB2 := below_appended hBb own0 gr2 (Nat.le_refl _) hBs; have b2 := b1.below hB2 b1.lt; have hBw2 := hB1'.trans (hB2.mono hB1'.size); obtain ⟨G, c2, e2, hG1, hG2, hc2⟩ := own2.form (by rw [Htl.out]; exact hm0); subst e2; rw [Htl.out] at hc2; have c0 := own2.cell k (by rw [Htl.out]; exact hkm); have f0 := own2.frozen k; replace own2 := own2.set_ k (nth sealed k ^^^ by_); rw [Htl.out, HS.out] at own2; replace b2 := b2.far (p := ⟨G, k, none⟩) (by have := b1.lt; simp; omega) (.int .u8 (n8 (nth sealed k ^^^ by_))); replace hBw2 := hBw2.setCell (p := ⟨G, k, none⟩) (by have := hB1'.size; simp; omega) (.int .u8 (n8 (nth sealed k ^^^ by_))); have hl2 := Htl.out; rw [hl2]; clear hl2; clear own0 gr2 at2 hr1 hBb) | (go_at_call 27; refine (open_refused A n c nonce Hn.out _ _ _ H16.out H32.out).mono ?_; rintro e w3 ⟨rfl, hB3⟩; have b3 := b2.below hB3 b2.lt; have hBw3 := hBw2.trans (hB3.mono hBw2.size)) | (go_at_call 28; have hx := hBw3; clear hx; refine (ropen_refused A n c nonce _ _ _ H16.out H32.out).mono ?_; rintro e w4 ⟨rfl, hB4⟩; have hBw4 := hBw3.trans (hB4.mono hBw3.size)) | (refine wpl_load_arr rfl 46 _ rfl _ rfl 12 ty12 nonce Hn.out b3.cells_arr ?_) | (refine wpl_load_arr rfl 46 _ rfl _ rfl 12 ty12 nonce Hn.out b2.cells_arr ?_) | (refine wpl_valueGd (run_toStr rfl Try.underlying22 Try.underlying5 Try.underlying9 _ none 0 0 [] rfl (readsB_none w4)) rfl ?_) | (refine wpl_valueGd (run_neqStr rfl [] [] rfl rfl true rfl) rfl ?_))
  go_ret
  exact ⟨rfl, hBw4⟩

set_option maxHeartbeats 8000000 in
set_option maxRecDepth 100000 in
theorem opens_made0 (A : Option Addr) (n c : Nat) (key nonce : List UInt8) (hn : nonce.length = 12) (D : Option Addr) (p q : Nat) (aside : List UInt8) (E : Option Addr) (m d : Nat) (sealed : List UInt8) (at_ : UInt16) (by_ : UInt8) (w : World) (hr : ReadsB w w.heap.size A n key) (hk : n = 16 ∨ n = 32) (ha : ReadsB w w.heap.size D p aside) (hpq : p ≤ q) (hq : q ≤ 1048576) (ht : ReadsB w w.heap.size E m sealed) (hmd : m ≤ d) (hm : d ≤ 1048576) (hm0 : m = 0) :
    Calls Try.prog 11 #[.slice A n c, .agg (arr nonce), .slice D p q, .slice E m d, .int .u16 ((n16 at_ : Nat) : Int), .int .u8 ((n8 by_ : Nat) : Int)] w fun e w' => e = .returned (.bool true) ∧ Below w.heap.size w w' := by
  have Hn := hd hn
  have Htl := hd ht.len
  clear hn
  have hB0 := (Below.refl w.heap.size w).alloc (Nat.le_refl _) (.cells (arr nonce) 46)
  have b0 : Blk (w.alloc (.cells (arr nonce) 46)) w.heap.size 46 (arr nonce) := Blk.nu rfl
  go_enter Try.func11, Try.ntmps11
  go_wp2_with fail
  refine (head8_any _).mono ?_
  rintro e w1 ⟨rfl, hB1⟩
  have b1 := b0.below hB1 b0.lt
  have hB1' := hB0.trans (hB1.mono hB0.size)
  have ht1 := ht.onward hB1'
  have own0 := OwnB.empty (w := w1) (Nat.le_refl w1.heap.size)
  have hr1 : ReadsB (w1.alloc (.cells #[] 5)) w1.heap.size E m sealed := ⟨ht1.len, ht1.is.alloc (Nat.le_refl _) _⟩
  have hcl : ([] : List UInt8).length + sealed.length ≤ 140737488355328 := by rw [Htl.out]; simp; omega
  have hBs : w1.heap.size ≤ (w1.alloc (.cells #[] 5)).heap.size := by simp
  have hBb := (Below.refl w1.heap.size w1).alloc (Nat.le_refl _) (.cells #[] 5)
  clear b0 hB0 hB1 ht1

  have e0 : sealed = [] := List.eq_nil_of_length_eq_zero (by rw [Htl.out]; exact hm0)
  subst e0
  have HSl := hd (show ([] : List UInt8).length = m by rw [hm0]; rfl)
  obtain ⟨S, HS⟩ : ∃ l, Hd (([] : List UInt8) = l) := ⟨_, ⟨rfl⟩⟩
  rw [HS.out] at HSl
  have tz : ¬ (0 : Int) < (m : Int) := by omega
  have Hm0 := hd hm0
  clear hm0
  cases hu : Gcm.unlock (Aes.keys key) nonce aside S with
  | none =>
    have HU := hd hu
    clear hu
    go_wp2_with (first | (at_builtin; refine wpl_appendB rfl _ _ rfl w1.heap.size (.slice (some ⟨w1.heap.size, 0, none⟩) 0 0) [] rfl own0 w1.heap.size E m d [] rfl hr1 hcl hBs ?_; intro v2 w2 own2 gr2 at2; rw [List.nil_append] at own2; have hB2 := below_appended hBb own0 gr2 (Nat.le_refl _) hBs; have b2 := b1.below hB2 b1.lt; have hBw2 := hB1'.trans (hB2.mono hB1'.size); obtain ⟨A2, c2, e2⟩ := own2.slice; rw [Htl.out] at e2; subst e2; rw [HS.out] at own2; have hc2 : m ≤ c2 := (by have := Hm0.out; omega); clear own0 gr2 at2 hr1 hBb) | (go_at_call 27; refine (open_made A n c key nonce Hn.out D p q aside A2 m c2 S _ (hr.onward hBw2) hk (ha.onward hBw2) hpq (by omega) own2.reads_any.2 hc2 (by omega)).mono ?_; intro e w3 hop; rw [HU.out] at hop; obtain ⟨rfl, hB3⟩ := hop; have b3 := b2.below hB3 b2.lt; have hBw3 := hBw2.trans (hB3.mono hBw2.size); have own2a := own2.later hB3) | (go_at_call 28; have hx := hBw3; clear hx; refine (ropen_made A n c key nonce Hn.out D p q aside A2 m c2 S _ (hr.onward hBw3) hk (ha.onward hBw3) own2a.reads_any.2 hc2 (by omega)).mono ?_; intro e w4 hop; rw [HU.out] at hop; obtain ⟨rfl, hB4⟩ := hop; have b4 := b3.below hB4 b3.lt; have hBw4 := hBw3.trans (hB4.mono hBw3.size); have own2b := own2a.later hB4) | (refine wpl_load_arr rfl 46 _ rfl _ rfl 12 ty12 nonce Hn.out b3.cells_arr ?_) | (refine wpl_load_arr rfl 46 _ rfl _ rfl 12 ty12 nonce Hn.out b2.cells_arr ?_) | (refine wpl_valueGd (run_toStr rfl Try.underlying22 Try.underlying5 Try.underlying9 _ none 0 0 [] rfl (readsB_none w4)) rfl ?_) | (refine wpl_valueGd (run_neqStr rfl [] [] rfl rfl true rfl) rfl ?_))
    go_ret
    exact ⟨rfl, hBw4⟩
  | some T =>
    have HU := hd hu
    clear hu
    have HL := hd (Gcm.lock_unlock _ _ _ _ _ HU.out)
    have HTl := hd (show T.length ≤ m by have h := Gcm.lock_len (Aes.keys key) nonce aside T; rw [HL.out, HSl.out] at h; omega)
    go_wp2_with (first | (at_builtin; refine wpl_appendB rfl _ _ rfl w1.heap.size (.slice (some ⟨w1.heap.size, 0, none⟩) 0 0) [] rfl own0 w1.heap.size E m d [] rfl hr1 hcl hBs ?_; intro v2 w2 own2 gr2 at2; rw [List.nil_append] at own2; have hB2 := below_appended hBb own0 gr2 (Nat.le_refl _) hBs; have b2 := b1.below hB2 b1.lt; have hBw2 := hB1'.trans (hB2.mono hB1'.size); obtain ⟨A2, c2, e2⟩ := own2.slice; rw [Htl.out] at e2; subst e2; rw [HS.out] at own2; have hc2 : m ≤ c2 := (by have := Hm0.out; omega); clear own0 gr2 at2 hr1 hBb) | (go_at_call 27; refine (open_made A n c key nonce Hn.out D p q aside A2 m c2 S _ (hr.onward hBw2) hk (ha.onward hBw2) hpq (by omega) own2.reads_any.2 hc2 (by omega)).mono ?_; intro e w3 hop; rw [HU.out] at hop; obtain ⟨v3, rfl, own3, hB3⟩ := hop; obtain ⟨A3, c3, e3⟩ := own3.slice; subst e3; have b3 := b2.below hB3 b2.lt; have hBw3 := hBw2.trans (hB3.mono hBw2.size); have own2a := own2.later hB3) | (go_at_call 28; have hx := hBw3; clear hx; refine (ropen_made A n c key nonce Hn.out D p q aside A2 m c2 S _ (hr.onward hBw3) hk (ha.onward hBw3) own2a.reads_any.2 hc2 (by omega)).mono ?_; intro e w4 hop; rw [HU.out] at hop; obtain ⟨v4, rfl, own4, hB4⟩ := hop; obtain ⟨A4, c4, e4⟩ := own4.slice; subst e4; have b4 := b3.below hB4 b3.lt; have hBw4 := hBw3.trans (hB4.mono hBw3.size); have own2b := own2a.later hB4; have own3a := own3.later hB4) | (go_at_call 25; refine (lock_made A n c key nonce Hn.out D p q aside A3 T.length c3 T _ (hr.onward hBw4) hk (ha.onward hBw4) hpq (by omega) own3a.reads_any.2 (by have := HTl.out; omega)).mono ?_; rintro e w5 ⟨v5, rfl, own5, hB5⟩; rw [HL.out] at own5; obtain ⟨A5, c5, e5⟩ := own5.slice; rw [HSl.out] at e5; subst e5; have hBw5 := hBw4.trans (hB5.mono hBw4.size); have own2c := own2b.later hB5) | (refine wpl_load_arr rfl 46 _ rfl _ rfl 12 ty12 nonce Hn.out b4.cells_arr ?_) | (refine wpl_load_arr rfl 46 _ rfl _ rfl 12 ty12 nonce Hn.out b3.cells_arr ?_) | (refine wpl_load_arr rfl 46 _ rfl _ rfl 12 ty12 nonce Hn.out b2.cells_arr ?_) | (refine wpl_valueGd (run_toStr rfl Try.underlying22 Try.underlying5 Try.underlying9 _ A3 T.length c3 T rfl (own3a.reads_any.2)) rfl ?_) | (refine wpl_valueGd (run_toStr rfl Try.underlying22 Try.underlying5 Try.underlying9 _ A4 T.length c4 T rfl (own4.reads_any.2)) rfl ?_) | (refine wpl_valueGd (run_neqStr rfl T T rfl rfl true (decide_eq_true rfl)) rfl ?_) | (refine wpl_valueGd (run_toStr rfl Try.underlying22 Try.underlying5 Try.underlying9 _ A5 m c5 S rfl (own5.reads_any.2)) rfl ?_) | (refine wpl_valueGd (run_toStr rfl Try.underlying22 Try.underlying5 Try.underlying9 _ A2 m c2 S rfl (own2c.reads_any.2)) rfl ?_) | (refine wpl_valueGd (run_eqStr_true rfl S S rfl rfl rfl _) rfl ?_))
    go_ret
    exact ⟨rfl, hBw5⟩
set_option maxHeartbeats 8000000 in
set_option maxRecDepth 100000 in
theorem opens_made1 (A : Option Addr) (n c : Nat) (key nonce : List UInt8) (hn : nonce.length = 12) (D : Option Addr) (p q : Nat) (aside : List UInt8) (E : Option Addr) (m d : Nat) (sealed : List UInt8) (at_ : UInt16) (by_ : UInt8) (w : World) (hr : ReadsB w w.heap.size A n key) (hk : n = 16 ∨ n = 32) (ha : ReadsB w w.heap.size D p aside) (hpq : p ≤ q) (hq : q ≤ 1048576) (ht : ReadsB w w.heap.size E m sealed) (hmd : m ≤ d) (hm : d ≤ 1048576) (hm0 : 0 < m) :
    Calls Try.prog 11 #[.slice A n c, .agg (arr nonce), .slice D p q, .slice E m d, .int .u16 ((n16 at_ : Nat) : Int), .int .u8 ((n8 by_ : Nat) : Int)] w fun e w' => e = .returned (.bool true) ∧ Below w.heap.size w w' := by
  have Hn := hd hn
  have Htl := hd ht.len
  clear hn
  have hB0 := (Below.refl w.heap.size w).alloc (Nat.le_refl _) (.cells (arr nonce) 46)
  have b0 : Blk (w.alloc (.cells (arr nonce) 46)) w.heap.size 46 (arr nonce) := Blk.nu rfl
  go_enter Try.func11, Try.ntmps11
  go_wp2_with fail
  refine (head8_any _).mono ?_
  rintro e w1 ⟨rfl, hB1⟩
  have b1 := b0.below hB1 b0.lt
  have hB1' := hB0.trans (hB1.mono hB0.size)
  have ht1 := ht.onward hB1'
  have own0 := OwnB.empty (w := w1) (Nat.le_refl w1.heap.size)
  have hr1 : ReadsB (w1.alloc (.cells #[] 5)) w1.heap.size E m sealed := ⟨ht1.len, ht1.is.alloc (Nat.le_refl _) _⟩
  have hcl : ([] : List UInt8).length + sealed.length ≤ 140737488355328 := by rw [Htl.out]; simp; omega
  have hBs : w1.heap.size ≤ (w1.alloc (.cells #[] 5)).heap.size := by simp
  have hBb := (Below.refl w1.heap.size w1).alloc (Nat.le_refl _) (.cells #[] 5)
  clear b0 hB0 hB1 ht1

  have tz : (0 : Int) < (m : Int) := by omega
  obtain ⟨k, HK⟩ : ∃ k, Hd ((n16 at_) % m = k) := ⟨_, ⟨rfl⟩⟩
  have hkm : k < m := by rw [← HK.out]; exact Nat.mod_lt _ hm0
  have hat := n16_lt at_
  have v1 : IntKind.i64.wrap ((n16 at_ : Nat) : Int) = ((n16 at_ : Nat) : Int) := IntWalk.i64_in _ (by omega)
  have v2 : ((n16 at_ : Nat) : Int).tmod (m : Int) = (k : Int) := by rw [Int.tmod_eq_emod_of_nonneg (by omega), ← HK.out]; exact (Int.natCast_emod _ _).symm
  have v3 : IntKind.i64.wrap (k : Int) = (k : Int) := IntWalk.i64_in _ (by omega)
  have v4 : (k : Int) < (m : Int) := by omega
  have v5 : ¬ (m : Int) = 0 := by omega
  obtain ⟨S, HS⟩ : ∃ l, Hd (sealed.set k (nth sealed k ^^^ by_) = l) := ⟨_, ⟨rfl⟩⟩
  have HSl := hd (show S.length = m by rw [← HS.out, List.length_set, Htl.out])
  cases hu : Gcm.unlock (Aes.keys key) nonce aside S with
  | none =>
    have HU := hd hu
    clear hu
    go_wp2_with (first | (at_builtin; refine wpl_appendB rfl _ _ rfl w1.heap.size (.slice (some ⟨w1.heap.size, 0, none⟩) 0 0) [] rfl own0 w1.heap.size E m d sealed rfl hr1 hcl hBs ?_; intro v2 w2 own2 gr2 at2; rw [List.nil_append] at own2; have hB2 := below_appended hBb own0 gr2 (Nat.le_refl _) hBs; have b2 := b1.below hB2 b1.lt; have hBw2 := hB1'.trans (hB2.mono hB1'.size); obtain ⟨G, c2, e2, hG1, hG2, hc2⟩ := own2.form (by rw [Htl.out]; exact hm0); subst e2; rw [Htl.out] at hc2; have c0 := own2.cell k (by rw [Htl.out]; exact hkm); have f0 := own2.frozen k; replace own2 := own2.set_ k (nth sealed k ^^^ by_); rw [Htl.out, HS.out] at own2; replace b2 := b2.far (p := ⟨G, k, none⟩) (by have := b1.lt; simp; omega) (.int .u8 (n8 (nth sealed k ^^^ by_))); replace hBw2 := hBw2.setCell (p := ⟨G, k, none⟩) (by have := hB1'.size; simp; omega) (.int .u8 (n8 (nth sealed k ^^^ by_))); have hl2 := Htl.out; rw [hl2]; clear hl2; clear own0 gr2 at2 hr1 hBb) | (go_at_call 27; refine (open_made A n c key nonce Hn.out D p q aside (some ⟨G, 0, none⟩) m c2 S _ (hr.onward hBw2) hk (ha.onward hBw2) hpq (by omega) own2.reads_any.2 hc2 (by omega)).mono ?_; intro e w3 hop; rw [HU.out] at hop; obtain ⟨rfl, hB3⟩ := hop; have b3 := b2.below hB3 b2.lt; have hBw3 := hBw2.trans (hB3.mono hBw2.size); have own2a := own2.later hB3) | (go_at_call 28; have hx := hBw3; clear hx; refine (ropen_made A n c key nonce Hn.out D p q aside (some ⟨G, 0, none⟩) m c2 S _ (hr.onward hBw3) hk (ha.onward hBw3) own2a.reads_any.2 hc2 (by omega)).mono ?_; intro e w4 hop; rw [HU.out] at hop; obtain ⟨rfl, hB4⟩ := hop; have b4 := b3.below hB4 b3.lt; have hBw4 := hBw3.trans (hB4.mono hBw3.size); have own2b := own2a.later hB4) | (refine wpl_load_arr rfl 46 _ rfl _ rfl 12 ty12 nonce Hn.out b3.cells_arr ?_) | (refine wpl_load_arr rfl 46 _ rfl _ rfl 12 ty12 nonce Hn.out b2.cells_arr ?_) | (refine wpl_valueGd (run_toStr rfl Try.underlying22 Try.underlying5 Try.underlying9 _ none 0 0 [] rfl (readsB_none w4)) rfl ?_) | (refine wpl_valueGd (run_neqStr rfl [] [] rfl rfl true rfl) rfl ?_))
    go_ret
    exact ⟨rfl, hBw4⟩
  | some T =>
    have HU := hd hu
    clear hu
    have HL := hd (Gcm.lock_unlock _ _ _ _ _ HU.out)
    have HTl := hd (show T.length ≤ m by have h := Gcm.lock_len (Aes.keys key) nonce aside T; rw [HL.out, HSl.out] at h; omega)
    go_wp2_with (first | (at_builtin; refine wpl_appendB rfl _ _ rfl w1.heap.size (.slice (some ⟨w1.heap.size, 0, none⟩) 0 0) [] rfl own0 w1.heap.size E m d sealed rfl hr1 hcl hBs ?_; intro v2 w2 own2 gr2 at2; rw [List.nil_append] at own2; have hB2 := below_appended hBb own0 gr2 (Nat.le_refl _) hBs; have b2 := b1.below hB2 b1.lt; have hBw2 := hB1'.trans (hB2.mono hB1'.size); obtain ⟨G, c2, e2, hG1, hG2, hc2⟩ := own2.form (by rw [Htl.out]; exact hm0); subst e2; rw [Htl.out] at hc2; have c0 := own2.cell k (by rw [Htl.out]; exact hkm); have f0 := own2.frozen k; replace own2 := own2.set_ k (nth sealed k ^^^ by_); rw [Htl.out, HS.out] at own2; replace b2 := b2.far (p := ⟨G, k, none⟩) (by have := b1.lt; simp; omega) (.int .u8 (n8 (nth sealed k ^^^ by_))); replace hBw2 := hBw2.setCell (p := ⟨G, k, none⟩) (by have := hB1'.size; simp; omega) (.int .u8 (n8 (nth sealed k ^^^ by_))); have hl2 := Htl.out; rw [hl2]; clear hl2; clear own0 gr2 at2 hr1 hBb) | (go_at_call 27; refine (open_made A n c key nonce Hn.out D p q aside (some ⟨G, 0, none⟩) m c2 S _ (hr.onward hBw2) hk (ha.onward hBw2) hpq (by omega) own2.reads_any.2 hc2 (by omega)).mono ?_; intro e w3 hop; rw [HU.out] at hop; obtain ⟨v3, rfl, own3, hB3⟩ := hop; obtain ⟨A3, c3, e3⟩ := own3.slice; subst e3; have b3 := b2.below hB3 b2.lt; have hBw3 := hBw2.trans (hB3.mono hBw2.size); have own2a := own2.later hB3) | (go_at_call 28; have hx := hBw3; clear hx; refine (ropen_made A n c key nonce Hn.out D p q aside (some ⟨G, 0, none⟩) m c2 S _ (hr.onward hBw3) hk (ha.onward hBw3) own2a.reads_any.2 hc2 (by omega)).mono ?_; intro e w4 hop; rw [HU.out] at hop; obtain ⟨v4, rfl, own4, hB4⟩ := hop; obtain ⟨A4, c4, e4⟩ := own4.slice; subst e4; have b4 := b3.below hB4 b3.lt; have hBw4 := hBw3.trans (hB4.mono hBw3.size); have own2b := own2a.later hB4; have own3a := own3.later hB4) | (go_at_call 25; refine (lock_made A n c key nonce Hn.out D p q aside A3 T.length c3 T _ (hr.onward hBw4) hk (ha.onward hBw4) hpq (by omega) own3a.reads_any.2 (by have := HTl.out; omega)).mono ?_; rintro e w5 ⟨v5, rfl, own5, hB5⟩; rw [HL.out] at own5; obtain ⟨A5, c5, e5⟩ := own5.slice; rw [HSl.out] at e5; subst e5; have hBw5 := hBw4.trans (hB5.mono hBw4.size); have own2c := own2b.later hB5) | (refine wpl_load_arr rfl 46 _ rfl _ rfl 12 ty12 nonce Hn.out b4.cells_arr ?_) | (refine wpl_load_arr rfl 46 _ rfl _ rfl 12 ty12 nonce Hn.out b3.cells_arr ?_) | (refine wpl_load_arr rfl 46 _ rfl _ rfl 12 ty12 nonce Hn.out b2.cells_arr ?_) | (refine wpl_valueGd (run_toStr rfl Try.underlying22 Try.underlying5 Try.underlying9 _ A3 T.length c3 T rfl (own3a.reads_any.2)) rfl ?_) | (refine wpl_valueGd (run_toStr rfl Try.underlying22 Try.underlying5 Try.underlying9 _ A4 T.length c4 T rfl (own4.reads_any.2)) rfl ?_) | (refine wpl_valueGd (run_neqStr rfl T T rfl rfl true (decide_eq_true rfl)) rfl ?_) | (refine wpl_valueGd (run_toStr rfl Try.underlying22 Try.underlying5 Try.underlying9 _ A5 m c5 S rfl (own5.reads_any.2)) rfl ?_) | (refine wpl_valueGd (run_toStr rfl Try.underlying22 Try.underlying5 Try.underlying9 _ (some ⟨G, 0, none⟩) m c2 S rfl (own2c.reads_any.2)) rfl ?_) | (refine wpl_valueGd (run_eqStr_true rfl S S rfl rfl rfl _) rfl ?_))
    go_ret
    exact ⟨rfl, hBw5⟩

theorem opens_all (A : Option Addr) (n c : Nat) (key nonce : List UInt8) (D : Option Addr) (p q : Nat) (aside : List UInt8) (E : Option Addr) (m d : Nat) (sealed : List UInt8) (at_ : UInt16) (by_ : UInt8) (w : World) (hr : ReadsB w w.heap.size A n key) (hnc : n ≤ c) (hc : c ≤ 1048576) (hn : nonce.length = 12) (ha : ReadsB w w.heap.size D p aside) (hpq : p ≤ q) (hq : q ≤ 1048576) (ht : ReadsB w w.heap.size E m sealed) (hmd : m ≤ d) (hm : d ≤ 1048576) :
    Calls Try.prog 11 #[.slice A n c, .agg (arr nonce), .slice D p q, .slice E m d, .int .u16 ((n16 at_ : Nat) : Int), .int .u8 ((n8 by_ : Nat) : Int)] w fun e w' => e = .returned (.bool true) ∧ Below w.heap.size w w' := by
  by_cases h : n = 16 ∨ n = 32
  · rcases Nat.eq_zero_or_pos m with h0 | h0
    · exact opens_made0 A n c key nonce hn D p q aside E m d sealed at_ by_ w hr h ha hpq hq ht hmd hm h0
    · exact opens_made1 A n c key nonce hn D p q aside E m d sealed at_ by_ w hr h ha hpq hq ht hmd hm h0
  · rcases Nat.eq_zero_or_pos m with h0 | h0
    · exact opens_refused0 A n c key nonce hn D p q aside E m d sealed at_ by_ w (fun e => h (.inl e)) (fun e => h (.inr e)) ht hmd hm h0
    · exact opens_refused1 A n c key nonce hn D p q aside E m d sealed at_ by_ w (fun e => h (.inl e)) (fun e => h (.inr e)) ht hmd hm h0
end Go.Proofs.Ytbbfckdcfbacpaa
