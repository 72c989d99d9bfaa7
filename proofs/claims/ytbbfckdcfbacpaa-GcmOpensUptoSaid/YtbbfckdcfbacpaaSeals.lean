/-
  The walk of the statement GcmSeals.
-/
import Derived.Test.YtbbfckdcfbacpaaOpenR
import Derived.Test.YtbbfckdcfbacpaaGcmH
set_option linter.unusedVariables false
set_option linter.unusedSimpArgs false
namespace Go.Proofs.Ytbbfckdcfbacpaa
open Go.RowKit
theorem readsB_none (w : World) : ReadsB w w.heap.size none 0 [] := ⟨rfl, Reads.none_⟩
set_option maxHeartbeats 4000000 in
set_option maxRecDepth 100000 in
theorem seals_refused (A : Option Addr) (n c : Nat) (nonce : List UInt8) (hn : nonce.length = 12) (D : Option Addr) (p q : Nat) (E : Option Addr) (m d : Nat) (text : List UInt8) (w : World) (h16 : n ≠ 16) (h32 : n ≠ 32) (ht : ReadsB w w.heap.size E m text) (hmd : m ≤ d) (hm : d ≤ 1048576) :
    Calls Try.prog 10 #[.slice A n c, .agg (arr nonce), .slice D p q, .slice E m d] w fun e w' => e = .returned (.bool true) ∧ Below w.heap.size w w' := by
  have Hn := hd hn
  have Htl := hd ht.len
  clear hn
  have H16 := hd h16
  have H32 := hd h32
  clear h16 h32
  have hB0 := (Below.refl w.heap.size w).alloc (Nat.le_refl _) (.cells (arr nonce) 46)
  have b0 : Blk (w.alloc (.cells (arr nonce) 46)) w.heap.size 46 (arr nonce) := Blk.nu rfl
  go_enter Try.func10, Try.ntmps10
  go_wp2_with fail
  refine (head8_any _).mono ?_
  rintro e w1 ⟨rfl, hB1⟩
  have b1 := b0.below hB1 b0.lt
  have hB1' := hB0.trans (hB1.mono hB0.size)
  have ht1 := ht.onward hB1'
  have own0 := OwnB.empty (w := w1) (Nat.le_refl w1.heap.size)
  have hr1 : ReadsB (w1.alloc (.cells #[] 5)) w1.heap.size E m text := ⟨ht1.len, ht1.is.alloc (Nat.le_refl _) _⟩
  have hcl : ([] : List UInt8).length + text.length ≤ 140737488355328 := by rw [Htl.out]; simp; omega
  have hBs : w1.heap.size ≤ (w1.alloc (.cells #[] 5)).heap.size := by simp
  have hBa := hB1'.alloc hB1'.size (.cells #[] 5)
  have hBb := (Below.refl w1.heap.size w1).alloc (Nat.le_refl _) (.cells #[] 5)
  clear b0 hB0 hB1 ht1
  go_wp2_with (first | (refine wpl_load_arr rfl 46 _ rfl _ rfl 12 ty12 nonce Hn.out b2.cells_arr ?_) | (at_builtin; refine wpl_appendB rfl _ _ rfl w1.heap.size (.slice (some ⟨w1.heap.size, 0, none⟩) 0 0) [] rfl own0 w1.heap.size E m d text rfl hr1 hcl hBs ?_; intro v2 w2 own2 gr2 at2; rw [List.nil_append] at own2; obtain ⟨A2, c2, e2⟩ := own2.slice; rw [Htl.out] at e2; subst e2; have hB2 := below_appended hBb own0 gr2 (Nat.le_refl _) hBs; have b2 := b1.below hB2 b1.lt; clear own0 gr2 at2 hr1 hBa hBb))
  refine (lock_refused A n c nonce Hn.out _ _ _ H16.out H32.out).mono ?_
  rintro e w3 ⟨rfl, hB3⟩
  have b3 := b2.below hB3 b2.lt
  have own3 := own2.later hB3
  have hB3' := hB2.trans (hB3.mono hB2.size)
  clear b2 own2 hB3 hB2
  go_wp2_with (refine wpl_load_arr rfl 46 _ rfl _ rfl 12 ty12 nonce Hn.out b3.cells_arr ?_)
  refine (rlock_refused A n c nonce _ _ _ H16.out H32.out).mono ?_
  rintro e w4 ⟨rfl, hB4⟩
  have own4 := own3.later hB4
  have hB4' := hB3'.trans (hB4.mono hB3'.size)
  have hBw := hB1'.trans (hB4'.mono hB1'.size)
  have ht4 := ht.onward hBw
  have r4 := own4.reads_any.2
  clear b3 own3 hB4 hB3'
  go_wp2_with (first | (refine wpl_valueGd (run_toStr rfl Try.underlying22 Try.underlying5 Try.underlying9 _ none 0 0 [] rfl (readsB_none w4)) rfl ?_) | (refine wpl_valueGd (run_toStr rfl Try.underlying22 Try.underlying5 Try.underlying9 _ A2 m c2 text rfl r4) rfl ?_) | (refine wpl_valueGd (run_toStr rfl Try.underlying22 Try.underlying5 Try.underlying9 _ E m d text rfl ht4) rfl ?_) | (refine wpl_valueGd (run_neqStr rfl [] [] rfl rfl true rfl) rfl ?_) | (refine wpl_valueGd (run_neqStr rfl text text rfl rfl true (decide_eq_true rfl)) rfl ?_))
  go_ret
  exact ⟨rfl, hBw⟩
set_option maxHeartbeats 8000000 in
set_option maxRecDepth 100000 in
theorem seals_made (A : Option Addr) (n c : Nat) (key nonce : List UInt8) (hn : nonce.length = 12) (D : Option Addr) (p q : Nat) (aside : List UInt8) (E : Option Addr) (m d : Nat) (text : List UInt8) (w : World) (hr : ReadsB w w.heap.size A n key) (hk : n = 16 ∨ n = 32) (ha : ReadsB w w.heap.size D p aside) (hpq : p ≤ q) (hq : q ≤ 1048576) (ht : ReadsB w w.heap.size E m text) (hmd : m ≤ d) (hm : d ≤ 1048576) :
    Calls Try.prog 10 #[.slice A n c, .agg (arr nonce), .slice D p q, .slice E m d] w fun e w' => e = .returned (.bool true) ∧ Below w.heap.size w w' := by
  have Hn := hd hn
  have Htl := hd ht.len
  clear hn
  obtain ⟨L, HL⟩ : ∃ l, Hd (Gcm.lock (Aes.keys key) nonce aside text = l) := ⟨_, ⟨rfl⟩⟩
  have HLl := hd (show L.length = m + 16 by rw [← HL.out, Gcm.lock_len, Htl.out])
  have HU := hd (show Gcm.unlock (Aes.keys key) nonce aside L = some text by rw [← HL.out, Gcm.unlock_lock])
  have hB0 := (Below.refl w.heap.size w).alloc (Nat.le_refl _) (.cells (arr nonce) 46)
  have b0 : Blk (w.alloc (.cells (arr nonce) 46)) w.heap.size 46 (arr nonce) := Blk.nu rfl
  go_enter Try.func10, Try.ntmps10
  go_wp2_with fail
  refine (head8_any _).mono ?_
  rintro e w1 ⟨rfl, hB1⟩
  have b1 := b0.below hB1 b0.lt
  have hB1' := hB0.trans (hB1.mono hB0.size)
  have ht1 := ht.onward hB1'
  have own0 := OwnB.empty (w := w1) (Nat.le_refl w1.heap.size)
  have hr1 : ReadsB (w1.alloc (.cells #[] 5)) w1.heap.size E m text := ⟨ht1.len, ht1.is.alloc (Nat.le_refl _) _⟩
  have hcl : ([] : List UInt8).length + text.length ≤ 140737488355328 := by rw [Htl.out]; simp; omega
  have hBs : w1.heap.size ≤ (w1.alloc (.cells #[] 5)).heap.size := by simp
  have hBb := (Below.refl w1.heap.size w1).alloc (Nat.le_refl _) (.cells #[] 5)
  clear b0 hB0 hB1 ht1
  go_wp2_with (first | (refine wpl_load_arr rfl 46 _ rfl _ rfl 12 ty12 nonce Hn.out b2.cells_arr ?_) | (at_builtin; refine wpl_appendB rfl _ _ rfl w1.heap.size (.slice (some ⟨w1.heap.size, 0, none⟩) 0 0) [] rfl own0 w1.heap.size E m d text rfl hr1 hcl hBs ?_; intro v2 w2 own2 gr2 at2; rw [List.nil_append] at own2; obtain ⟨A2, c2, e2⟩ := own2.slice; rw [Htl.out] at e2; subst e2; have hB2 := below_appended hBb own0 gr2 (Nat.le_refl _) hBs; have b2 := b1.below hB2 b1.lt; clear own0 gr2 at2 hr1 hBb))
  have hBw2 := hB1'.trans (hB2.mono hB1'.size)
  refine (lock_made A n c key nonce Hn.out D p q aside A2 m c2 text _ (hr.onward hBw2) hk (ha.onward hBw2) hpq (by omega) own2.reads_any.2 (by omega)).mono ?_
  rintro e w3 ⟨v3, rfl, own3, hB3⟩
  rw [HL.out] at own3
  obtain ⟨A3, c3, e3⟩ := own3.slice
  rw [HLl.out] at e3
  subst e3
  have b3 := b2.below hB3 b2.lt
  have hBw3 := hBw2.trans (hB3.mono hBw2.size)
  replace own2 := own2.later hB3
  clear b2 hB3
  go_wp2_with (refine wpl_load_arr rfl 46 _ rfl _ rfl 12 ty12 nonce Hn.out b3.cells_arr ?_)
  refine (rlock_made A n c key nonce Hn.out D p q aside E m d text _ (hr.onward hBw3) hk (ha.onward hBw3) (ht.onward hBw3) (by omega)).mono ?_
  rintro e w4 ⟨v4, rfl, own4, hB4⟩
  rw [HL.out] at own4
  obtain ⟨A4, c4, e4⟩ := own4.slice
  rw [HLl.out] at e4
  subst e4
  have b4 := b3.below hB4 b3.lt
  have hBw4 := hBw3.trans (hB4.mono hBw3.size)
  replace own2 := own2.later hB4
  replace own3 := own3.later hB4
  have r2 := own2.reads_any.2
  have r3 := own3.reads_any.2
  have r4 := own4.reads_any.2
  have ht4 := ht.onward hBw4
  have hc3 : m + 16 ≤ c3 := by
    obtain ⟨g', cap, e', _, _, h5⟩ := own3.form (by rw [HLl.out]; omega)
    rw [HLl.out] at e' h5
    injection e' with _ _ e6
    omega
  clear b3 hB4 own2 own3 own4
  go_wp2_with (first | (refine wpl_load_arr rfl 46 _ rfl _ rfl 12 ty12 nonce Hn.out b4.cells_arr ?_) | (refine wpl_valueGd (run_toStr rfl Try.underlying22 Try.underlying5 Try.underlying9 _ A3 (m + 16) c3 L rfl r3) rfl ?_) | (refine wpl_valueGd (run_toStr rfl Try.underlying22 Try.underlying5 Try.underlying9 _ A4 (m + 16) c4 L rfl r4) rfl ?_) | (refine wpl_valueGd (run_toStr rfl Try.underlying22 Try.underlying5 Try.underlying9 _ A2 m c2 text rfl r2) rfl ?_) | (refine wpl_valueGd (run_toStr rfl Try.underlying22 Try.underlying5 Try.underlying9 _ E m d text rfl ht4) rfl ?_) | (refine wpl_valueGd (run_neqStr rfl L L rfl rfl true (decide_eq_true rfl)) rfl ?_) | (refine wpl_valueGd (run_neqStr rfl text text rfl rfl true (decide_eq_true rfl)) rfl ?_))
  refine (open_made A n c key nonce Hn.out D p q aside A3 (m + 16) c3 L _ (hr.onward hBw4) hk (ha.onward hBw4) hpq (by omega) r3 hc3 (by omega)).mono ?_
  intro e w5 hop
  rw [HU.out] at hop
  obtain ⟨v5, rfl, own5, hB5⟩ := hop
  obtain ⟨A5, c5, e5⟩ := own5.slice
  rw [Htl.out] at e5
  subst e5
  have r5 := own5.reads_any.2
  have hBw5 := hBw4.trans (hB5.mono hBw4.size)
  have ht5 := ht.onward hBw5
  clear r2 r3 r4 ht4 hB5 own5 b4
  have v1 : IntKind.i64.wrap ((m : Int) + 16) = (m : Int) + 16 := IntWalk.i64_in _ (by omega)
  go_wp2_with (first | (refine wpl_valueGd (run_toStr rfl Try.underlying22 Try.underlying5 Try.underlying9 _ A5 m c5 text rfl r5) rfl ?_) | (refine wpl_valueGd (run_toStr rfl Try.underlying22 Try.underlying5 Try.underlying9 _ E m d text rfl ht5) rfl ?_) | (refine wpl_valueGd (run_eqStr_true rfl text text rfl rfl rfl w5) rfl ?_))
  go_ret
  exact ⟨rfl, hBw5⟩
theorem seals_all (A : Option Addr) (n c : Nat) (key nonce : List UInt8) (D : Option Addr) (p q : Nat) (aside : List UInt8) (E : Option Addr) (m d : Nat) (text : List UInt8) (w : World) (hr : ReadsB w w.heap.size A n key) (hnc : n ≤ c) (hc : c ≤ 1048576) (hn : nonce.length = 12) (ha : ReadsB w w.heap.size D p aside) (hpq : p ≤ q) (hq : q ≤ 1048576) (ht : ReadsB w w.heap.size E m text) (hmd : m ≤ d) (hm : d ≤ 1048576) :
    Calls Try.prog 10 #[.slice A n c, .agg (arr nonce), .slice D p q, .slice E m d] w fun e w' => e = .returned (.bool true) ∧ Below w.heap.size w w' := by
  by_cases h : n = 16 ∨ n = 32
  · exact seals_made A n c key nonce hn D p q aside E m d text w hr h ha hpq hq ht hmd hm
  · exact seals_refused A n c nonce hn D p q E m d text w (fun e => h (.inl e)) (fun e => h (.inr e)) ht hmd hm
end Go.Proofs.Ytbbfckdcfbacpaa
