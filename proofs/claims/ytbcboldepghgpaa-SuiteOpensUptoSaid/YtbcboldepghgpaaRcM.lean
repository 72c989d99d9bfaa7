/-
  The walk of SuiteSeals.
-/
import Derived.Test.YtbcboldepghgpaaJf
set_option linter.unusedVariables false
set_option linter.unusedSimpArgs false
set_option maxRecDepth 100000
namespace Go.Proofs.Ytbcboldepghgpaa
open Go.RowKit
theorem Rc.back (s : UInt16) (key nonce a t : List UInt8) : Rec.openOf s key nonce a (Rec.sealOf s key nonce a t) = some t := by
  unfold Rec.openOf Rec.sealOf
  by_cases h : s = 4867
  · rw [if_pos h, if_pos h]; exact Cha.unlock_lock key nonce a t
  · rw [if_neg h, if_neg h]; exact Gcm.unlock_lock (Aes.keys key) nonce a t
theorem Rc.nilB (w : World) : ReadsB w w.heap.size none 0 [] := ⟨rfl, Reads.none_⟩
set_option maxHeartbeats 8000000 in
set_option maxRecDepth 100000 in
theorem Rc.seals_ok (s : UInt16) (A : Option Addr) (n c : Nat) (key nonce : List UInt8) (D : Option Addr) (p q : Nat) (aside : List UInt8) (E : Option Addr) (m d : Nat) (text : List UInt8) (w : World)
    (hr : ReadsB w w.heap.size A n key) (hn : nonce.length = 12) (ha : ReadsB w w.heap.size D p aside) (hpq : p ≤ q) (hq : q ≤ 1048576) (ht : ReadsB w w.heap.size E m text) (hmd : m ≤ d) (hdm : d ≤ 1048576) (hs : Suite.Ok s n) :
    Calls Try.prog 3 #[.int .u16 ((n16 s : Nat) : Int), .slice A n c, .agg (arr nonce), .slice D p q, .slice E m d] w fun e w' => e = .returned (.bool true) ∧ Below w.heap.size w w' := by
  have Hn := hd hn
  have Hpq := hd hpq
  have Hsz := hd (show m ≤ d ∧ p ≤ 1048576 ∧ m ≤ 1048576 by omega)
  have hB0 := (Below.refl w.heap.size w).alloc (Nat.le_refl _) (.cells (arr nonce) 25)
  have hS0 : Rc.Os w nonce A n key D p aside E m text (w.alloc (.cells (arr nonce) 25)) := ⟨Blk.nu rfl, hr.onward hB0, ha.onward hB0, ht.onward hB0, hB0⟩
  clear hn hpq hq hr ha ht hmd hdm hB0
  have Hok := hd hs
  clear hs
  obtain ⟨sl, Hsl⟩ : ∃ l, Hd (Rec.sealOf s key nonce aside text = l) := ⟨_, ⟨rfl⟩⟩
  have Hbk := hd (show Rec.openOf s key nonce aside sl = some text by rw [← Hsl.out]; exact Rc.back s key nonce aside text)
  go_enter Try.func3, Try.ntmps3
  go_wp2_with fail
  refine (head10_any _).mono ?_
  rintro e W1 ⟨rfl, hB1⟩
  have hS1 := hS0.next hB1
  clear hS0 hB1
  go_wp2_with (refine wpl_load_arr rfl 25 _ rfl _ rfl 12 Rc.agg12 nonce Hn.out hS1.bn.cells_arr ?_)
  refine (suiteSeal_ok s n Hok.out A c key nonce Hn.out D p q aside E m d text _ hS1.rk hS1.ra Hpq.out hS1.rt Hsz.out.1 (by have := Hsz.out; omega)).mono ?_
  rintro e W2 ⟨v1, rfl, own1, hB2⟩
  rw [Hsl.out] at own1
  have hS2 := hS1.next hB2
  have hw1 := hS1.old.size
  clear hS1 hB2
  obtain ⟨A1, c1, e1⟩ := own1.slice
  obtain ⟨L, HL⟩ : ∃ x, Hd (sl.length = x) := ⟨_, ⟨rfl⟩⟩
  rw [HL.out] at e1
  subst e1
  have HLb := hd (show L = m + 16 by rw [← HL.out, ← Hsl.out, Rec.sealOf_len, hS2.rt.len])
  go_wp2_with (refine wpl_load_arr rfl 25 _ rfl _ rfl 12 Rc.agg12 nonce Hn.out hS2.bn.cells_arr ?_)
  refine (Rc.rseal_ok s n Hok.out A c key nonce Hn.out D p q aside E m d text _ hS2.rk hS2.ra hS2.rt Hsz.out.1 (by have := Hsz.out; omega)).mono ?_
  rintro e W3 ⟨v2, rfl, own2, hB3⟩
  rw [Hsl.out] at own2
  have hS3 := hS2.next hB3
  have own1b := own1.later hB3
  clear hS2 hB3 own1
  obtain ⟨A2, c2, e2⟩ := own2.slice
  rw [HL.out] at e2
  subst e2
  have room1 := own1b.room
  have r1 : ReadsB W3 W3.heap.size A1 L sl := own1b.reads_any.2
  have r2 : ReadsB W3 W3.heap.size A2 L sl := own2.reads_any.2
  have Hs1 := hd (run_toString (P := Try.prog) Try.underlying24 Try.underlying5 Try.underlying9 _ A1 L c1 sl r1)
  have Hs2 := hd (run_toString (P := Try.prog) Try.underlying24 Try.underlying5 Try.underlying9 _ A2 L c2 sl r2)
  have Hop := hd (suiteOpen_ok s n Hok.out A c key nonce Hn.out D p q aside A1 L c1 sl W3 hS3.rk hS3.ra Hpq.out r1 room1 (by have := Hsz.out; have := HLb.out; omega))
  rw [Hbk.out] at Hop
  clear r1 r2 room1
  go_wp2_with (first
    | (with_reducible change wpList _ _ _ (⟨some 49, _, _, _, _, _⟩ :: _) _ _; refine wpl_run (o := ⟨some 49, _, _, _, _, _⟩) (by simp [Region.wanted, yielded, Act.put]) (.bool false) (run_neqF (by rfl) sl sl rfl (by simp [Act.eval, Act.put]) (by simp [Act.eval, Act.put]) _) ?_)
    | rw [Hs1.out]
    | rw [Hs2.out]
    | (refine wpl_load_arr rfl 25 _ rfl _ rfl 12 Rc.agg12 nonce Hn.out hS3.bn.cells_arr ?_)
    | (go_at_call 11; refine Hop.out.mono ?_; rintro e W4 ⟨v4, rfl, own4, hB4⟩; have hS4 := hS3.next hB4; obtain ⟨A4, c4, e4⟩ := own4.slice; rw [show text.length = m from hS4.rt.len] at e4; subst e4; have Hs4 := hd (run_toString (P := Try.prog) Try.underlying24 Try.underlying5 Try.underlying9 _ A4 m c4 text own4.reads_any.2); have Hs5 := hd (run_toString (P := Try.prog) Try.underlying24 Try.underlying5 Try.underlying9 _ E m d text hS4.rt)))
  go_wp2_with (first
    | (with_reducible change wpList _ _ _ (⟨some 82, _, _, _, _, _⟩ :: _) _ _; refine wpl_run (o := ⟨some 82, _, _, _, _, _⟩) (by simp [Region.wanted, yielded, Act.put]) (.bool true) (run_eqT (by rfl) text text rfl (by simp [Act.eval, Act.put]) (by simp [Act.eval, Act.put]) _) ?_)
    | rw [Hs4.out]
    | rw [Hs5.out])
  go_ret
  exact ⟨rfl, hS4.old⟩
set_option maxHeartbeats 8000000 in
set_option maxRecDepth 100000 in
theorem Rc.seals_not (s : UInt16) (A : Option Addr) (n c : Nat) (key nonce : List UInt8) (D : Option Addr) (p q : Nat) (aside : List UInt8) (E : Option Addr) (m d : Nat) (text : List UInt8) (w : World)
    (hr : ReadsB w w.heap.size A n key) (hn : nonce.length = 12) (ha : ReadsB w w.heap.size D p aside) (hpq : p ≤ q) (hq : q ≤ 1048576) (ht : ReadsB w w.heap.size E m text) (hmd : m ≤ d) (hdm : d ≤ 1048576) (r : Int) (hr0 : ¬ r = 0)
    (hseal : ∀ (X Y : Value) (w : World), Calls Try.prog 9 #[.int .u16 ((n16 s : Nat) : Int), .slice A n c, .agg (arr nonce), X, Y] w fun e w' => e = .returned (.tuple #[.slice none 0 0, .int .i64 r]) ∧ Below w.heap.size w w')
    (hopen : ∀ (X Y : Value) (w : World), Calls Try.prog 11 #[.int .u16 ((n16 s : Nat) : Int), .slice A n c, .agg (arr nonce), X, Y] w fun e w' => e = .returned (.tuple #[.slice none 0 0, .int .i64 r]) ∧ Below w.heap.size w w')
    (hrseal : ∀ (X Y : Value) (w : World), Calls Try.prog 10 #[.int .u16 ((n16 s : Nat) : Int), .slice A n c, .agg (arr nonce), X, Y] w fun e w' => e = .returned (.tuple #[.slice none 0 0, .int .i64 r]) ∧ Below w.heap.size w w') :
    Calls Try.prog 3 #[.int .u16 ((n16 s : Nat) : Int), .slice A n c, .agg (arr nonce), .slice D p q, .slice E m d] w fun e w' => e = .returned (.bool true) ∧ Below w.heap.size w w' := by
  have Hn := hd hn
  have Hpq := hd hpq
  have Hsz := hd (show m ≤ d ∧ p ≤ 1048576 ∧ m ≤ 1048576 by omega)
  have hB0 := (Below.refl w.heap.size w).alloc (Nat.le_refl _) (.cells (arr nonce) 25)
  have hS0 : Rc.Os w nonce A n key D p aside E m text (w.alloc (.cells (arr nonce) 25)) := ⟨Blk.nu rfl, hr.onward hB0, ha.onward hB0, ht.onward hB0, hB0⟩
  clear hn hpq hq hr ha ht hmd hdm hB0
  have H1 := hd hseal
  have H2 := hd hopen
  have H3 := hd hrseal
  clear hseal hopen hrseal
  have Hnil := hd (fun w => run_toString (P := Try.prog) Try.underlying24 Try.underlying5 Try.underlying9 _ none 0 0 [] (Rc.nilB w))
  go_enter Try.func3, Try.ntmps3
  go_wp2_with fail
  refine (head10_any _).mono ?_
  rintro e W1 ⟨rfl, hB1⟩
  have hS1 := hS0.next hB1
  clear hS0 hB1
  go_wp2_with (refine wpl_load_arr rfl 25 _ rfl _ rfl 12 Rc.agg12 nonce Hn.out hS1.bn.cells_arr ?_)
  refine (H1.out _ _ _).mono ?_
  rintro e W2 ⟨rfl, hB2⟩
  have hS2 := hS1.next hB2
  clear hS1 hB2
  go_wp2_with (refine wpl_load_arr rfl 25 _ rfl _ rfl 12 Rc.agg12 nonce Hn.out hS2.bn.cells_arr ?_)
  refine (H3.out _ _ _).mono ?_
  rintro e W3 ⟨rfl, hB3⟩
  have hS3 := hS2.next hB3
  clear hS2 hB3
  go_wp2_with (first
    | (with_reducible change wpList _ _ _ (⟨some 49, _, _, _, _, _⟩ :: _) _ _; refine wpl_run (o := ⟨some 49, _, _, _, _, _⟩) (by simp [Region.wanted, yielded, Act.put]) (.bool false) (run_neqF (by rfl) [] [] rfl (by simp [Act.eval, Act.put]) (by simp [Act.eval, Act.put]) _) ?_)
    | rw [Hnil.out]
    | (refine wpl_load_arr rfl 25 _ rfl _ rfl 12 Rc.agg12 nonce Hn.out hS3.bn.cells_arr ?_)
    | (go_at_call 11; refine (H2.out _ _ _).mono ?_; rintro e W4 ⟨rfl, hB4⟩; have hS4 := hS3.next hB4))
  go_ret
  exact ⟨rfl, hS4.old⟩
theorem suiteSeals_any (s : UInt16) (A : Option Addr) (n c : Nat) (key nonce : List UInt8) (D : Option Addr) (p q : Nat) (aside : List UInt8) (E : Option Addr) (m d : Nat) (text : List UInt8) (w : World)
    (hr : ReadsB w w.heap.size A n key) (_ : n ≤ c) (_ : c ≤ 1048576) (hn : nonce.length = 12) (ha : ReadsB w w.heap.size D p aside) (hpq : p ≤ q) (hq : q ≤ 1048576) (ht : ReadsB w w.heap.size E m text) (hmd : m ≤ d) (hdm : d ≤ 1048576) :
    Calls Try.prog 3 #[.int .u16 ((n16 s : Nat) : Int), .slice A n c, .agg (arr nonce), .slice D p q, .slice E m d] w fun e w' => e = .returned (.bool true) ∧ Below w.heap.size w w' := by
  by_cases h1 : s = 4865
  · subst h1
    by_cases hk : n = 16
    · exact Rc.seals_ok _ A n c key nonce D p q aside E m d text w hr hn ha hpq hq ht hmd hdm (.inl ⟨rfl, hk⟩)
    · exact Rc.seals_not _ A n c key nonce D p q aside E m d text w hr hn ha hpq hq ht hmd hdm 102 (by decide) (fun X Y w => suiteSealNot_128 A n c hk nonce X Y w) (fun X Y w => suiteOpenNot_128 A n c hk nonce X Y w) (fun X Y w => Rc.sealNo 4865 A n c nonce X Y w 102 (by decide) (fun w => Rc.may_not 4865 16 n (.inl ⟨rfl, rfl⟩) hk A c w))
  · by_cases h2 : s = 4866
    · subst h2
      by_cases hk : n = 32
      · exact Rc.seals_ok _ A n c key nonce D p q aside E m d text w hr hn ha hpq hq ht hmd hdm (.inr (.inl ⟨rfl, hk⟩))
      · exact Rc.seals_not _ A n c key nonce D p q aside E m d text w hr hn ha hpq hq ht hmd hdm 102 (by decide) (fun X Y w => suiteSealNot_256 A n c hk nonce X Y w) (fun X Y w => suiteOpenNot_256 A n c hk nonce X Y w) (fun X Y w => Rc.sealNo 4866 A n c nonce X Y w 102 (by decide) (fun w => Rc.may_not 4866 32 n (.inr (.inl ⟨rfl, rfl⟩)) hk A c w))
    · by_cases h3 : s = 4867
      · subst h3
        by_cases hk : n = 32
        · exact Rc.seals_ok _ A n c key nonce D p q aside E m d text w hr hn ha hpq hq ht hmd hdm (.inr (.inr ⟨rfl, hk⟩))
        · exact Rc.seals_not _ A n c key nonce D p q aside E m d text w hr hn ha hpq hq ht hmd hdm 102 (by decide) (fun X Y w => suiteSealNot_cha A n c hk nonce X Y w) (fun X Y w => suiteOpenNot_cha A n c hk nonce X Y w) (fun X Y w => Rc.sealNo 4867 A n c nonce X Y w 102 (by decide) (fun w => Rc.may_not 4867 32 n (.inr (.inr ⟨rfl, rfl⟩)) hk A c w))
      · have e1 : (s == 4865) = false := by simpa using h1
        have e2 : (s == 4866) = false := by simpa using h2
        have e3 : (s == 4867) = false := by simpa using h3
        exact Rc.seals_not s A n c key nonce D p q aside E m d text w hr hn ha hpq hq ht hmd hdm 101 (by decide) (fun X Y w => suiteSealNone s e1 e2 e3 A n c nonce X Y w) (fun X Y w => suiteOpenNone s e1 e2 e3 A n c nonce X Y w) (fun X Y w => Rc.sealNo s A n c nonce X Y w 101 (by decide) (fun w => Rc.may_none s e1 e2 e3 A n c w))
end Go.Proofs.Ytbcboldepghgpaa
