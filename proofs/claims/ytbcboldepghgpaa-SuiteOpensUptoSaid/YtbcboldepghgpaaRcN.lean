/-
  The walk of SuiteOpens.
-/
import Derived.Test.YtbcboldepghgpaaRcM
set_option linter.unusedVariables false
set_option linter.unusedSimpArgs false
set_option maxRecDepth 100000
namespace Go.Proofs.Ytbcboldepghgpaa
open Go.RowKit
theorem Rc.forth (s : UInt16) (key nonce a x l : List UInt8) (h : Rec.openOf s key nonce a x = some l) : Rec.sealOf s key nonce a l = x := by
  unfold Rec.openOf at h
  unfold Rec.sealOf
  by_cases hc : s = 4867
  · rw [if_pos hc] at h ⊢; exact Cha.lock_unlock key nonce a x l h
  · rw [if_neg hc] at h ⊢; exact Gcm.lock_unlock (Aes.keys key) nonce a x l h
theorem Rc.conv16 {w : World} {o : Oper} {ρ : Operand → Value} {x : Operand} (ho : o.op = .convert 22 3 x) (v : UInt16) (hx : ρ x = .int .u16 ((n16 v : Nat) : Int)) : (execOp ρ o).run Try.prog w = .ok (.value (.int .i64 ((n16 v : Nat) : Int))) w := by
  have hl : n16 v < 65536 := v.toNat_lt
  have e : IntKind.i64.wrap ((n16 v : Nat) : Int) = ((n16 v : Nat) : Int) := IntWalk.i64_in _ (by omega)
  unfold execOp
  simp only [ho, hx]
  simp [go_sem, Try.underlying22, Try.underlying3, e]
set_option maxHeartbeats 8000000 in
set_option maxRecDepth 100000 in
theorem Rc.opens_ok (s : UInt16) (A : Option Addr) (n c : Nat) (key nonce : List UInt8) (D : Option Addr) (p q : Nat) (aside : List UInt8) (E : Option Addr) (m d : Nat) (text : List UInt8) (at_ : UInt16) (by_ : UInt8) (w : World)
    (hr : ReadsB w w.heap.size A n key) (hn : nonce.length = 12) (ha : ReadsB w w.heap.size D p aside) (hpq : p ≤ q) (hq : q ≤ 1048576) (ht : ReadsB w w.heap.size E m text) (hmd : m ≤ d) (hdm : d ≤ 1048576) (hs : Suite.Ok s n) :
    Calls Try.prog 4 #[.int .u16 ((n16 s : Nat) : Int), .slice A n c, .agg (arr nonce), .slice D p q, .slice E m d, .int .u16 ((n16 at_ : Nat) : Int), .int .u8 ((n8 by_ : Nat) : Int)] w fun e w' => e = .returned (.bool true) ∧ Below w.heap.size w w' := by
  have Hn := hd hn
  have Hpq := hd hpq
  have Hsz := hd (show m ≤ d ∧ p ≤ 1048576 ∧ m ≤ 1048576 by omega)
  have Hr0 := hd hr
  have Ha0 := hd ha
  have Ht0 := hd ht
  have hB0 := (Below.refl w.heap.size w).alloc (Nat.le_refl _) (.cells (arr nonce) 25)
  have hS0 : Rc.Os w nonce A n key D p aside E m text (w.alloc (.cells (arr nonce) 25)) := ⟨Blk.nu rfl, hr.onward hB0, ha.onward hB0, ht.onward hB0, hB0⟩
  clear hn hpq hq hr ha ht hmd hdm hB0
  have Hok := hd hs
  clear hs
  have Hnil := hd (fun w => run_toString (P := Try.prog) Try.underlying24 Try.underlying5 Try.underlying9 _ none 0 0 [] (Rc.nilB w))
  go_enter Try.func4, Try.ntmps4
  go_wp2_with fail
  refine (head10_any _).mono ?_
  rintro e W1 ⟨rfl, hB1⟩
  have hS1 := hS0.next hB1
  clear hS0 hB1
  have own0 := OwnB.empty (w := W1) (Nat.le_refl W1.heap.size)
  have hr1 : ReadsB (W1.alloc (.cells #[] 5)) W1.heap.size E m text := ⟨hS1.rt.len, hS1.rt.is.alloc (Nat.le_refl _) _⟩
  have hcl : ([] : List UInt8).length + text.length ≤ 140737488355328 := by rw [hS1.rt.len]; have := Hsz.out; simp; omega
  have hBs : W1.heap.size ≤ (W1.alloc (.cells #[] 5)).heap.size := by simp
  have hBa : Below W1.heap.size W1 (W1.alloc (.cells #[] 5)) := (Below.refl _ _).alloc (Nat.le_refl _) _
  have hw1 : w.heap.size + 1 ≤ W1.heap.size := hS1.bn.lt
  go_upto_if 30 with (at_builtin; refine wpl_appendB rfl _ _ rfl W1.heap.size (.slice (some ⟨W1.heap.size, 0, none⟩) 0 0) [] rfl own0 W1.heap.size E m d text rfl hr1 hcl hBs ?_; intro v2 W2 own2 gr2 at2; rw [List.nil_append] at own2; obtain ⟨A2, c2, e2⟩ := own2.slice; rw [hS1.rt.len] at e2; subst e2)
  have hS2 := hS1.next (below_appended hBa own0 gr2 (Nat.le_refl _) hBs)
  have own3 := own2.low hw1
  clear own0 hr1 hcl hBs hBa gr2 at2 own2 hS1 hw1
  have hw1 := hS2.bn.lt
  go_cut [17] (fun _ wx => ∃ xs, OwnB wx (w.heap.size + 1) (.slice A2 m c2) xs ∧ Rc.Os w nonce A n key D p aside E m text wx)
  case first =>
    by_cases h0 : 0 < m
    · have t0 : (0 : Int) < (m : Int) := by omega
      have hl := own3.reads_any.1
      obtain ⟨g, c9, e9, hg, _, _⟩ := own3.form (by rw [← hl]; exact h0)
      rw [← hl] at e9
      injection e9 with e9 _ e10
      subst e9 e10
      obtain ⟨k, Hk⟩ : ∃ k, Hd (n16 at_ % m = k) := ⟨_, ⟨rfl⟩⟩
      have hkm := hd (show k < m by rw [← Hk.out]; exact Nat.mod_lt _ h0)
      have tk : (k : Int) < (m : Int) := by have := hkm.out; omega
      have hm0 : ¬ (m : Int) = 0 := by omega
      have own4 : OwnB W2 (w.heap.size + 1) (.slice (some ⟨g, 0, none⟩) text.length c2) text := by rw [← hl]; exact own3
      have ck := own4.cell k (by rw [← hl]; exact hkm.out)
      have fk := own4.frozen k
      have own5 := own4.set_ k (nth text k ^^^ by_)
      rw [← hl] at own5
      have hB5 : Below g W2 (W2.setCell ⟨g, k, none⟩ (.int .u8 (n8 (nth text k ^^^ by_)))) := (Below.refl g W2).setCell (Nat.le_refl _) _
      have hS5 : Rc.Os w nonce A n key D p aside E m text (W2.setCell ⟨g, k, none⟩ (.int .u8 (n8 (nth text k ^^^ by_)))) := by
        have hb := hS2.old
        have hb2 : Below w.heap.size w (W2.setCell ⟨g, k, none⟩ (.int .u8 (n8 (nth text k ^^^ by_)))) := hb.setCell (by simp only []; omega) _
        exact ⟨hS2.bn.far (by simp only []; omega) _, ⟨Hr0.out.len, (Hr0.out.is.below hb2).more hb2.size⟩, ⟨Ha0.out.len, (Ha0.out.is.below hb2).more hb2.size⟩, ⟨Ht0.out.len, (Ht0.out.is.below hb2).more hb2.size⟩, hb2⟩
      clear h0 hl own4 own3 hS2 hB5
      go_wp2_with (first
        | (with_reducible change wpList _ _ _ (⟨some 32, _, _, _, _, _⟩ :: _) _ _; refine wpl_run (o := ⟨some 32, _, _, _, _, _⟩) (wanted_plain rfl) (.int .i64 ((n16 at_ : Nat) : Int)) (Rc.conv16 (by rfl) at_ (by simp [Act.eval, Act.put])) ?_)
        | (with_reducible change wpList _ _ _ (⟨some 35, _, _, _, _, _⟩ :: _) _ _; refine wpl_run (o := ⟨some 35, _, _, _, _, _⟩) (wanted_plain rfl) (.int .i64 ((k : Nat) : Int)) (Rc.remN (by rfl) (n16 at_) m k (by have := hkm.out; omega) Hk.out (by simp [Act.eval, Act.put]) (by simp [Act.eval, Act.put])) ?_))
      go_meet
      exact ⟨_, own5, hS5⟩
    · have t0 : ¬ (0 : Int) < (m : Int) := by omega
      go_wp2
      go_meet
      exact ⟨_, own3, hS2⟩
  case rest =>
  clear own3 hS2 hw1
  obtain ⟨xs, ownx, hS2⟩ := hcut
  obtain ⟨W2, rfl⟩ : ∃ wx : World, wx = wc := ⟨_, rfl⟩
  have Lxs := hd ownx.reads_any.1
  have roomx := hd ownx.room
  obtain ⟨r, Hop⟩ : ∃ r, Hd (Rec.openOf s key nonce aside xs = r) := ⟨_, ⟨rfl⟩⟩
  have hO1 := suiteOpen_ok s n Hok.out A c key nonce Hn.out D p q aside A2 m c2 xs W2 hS2.rk hS2.ra Hpq.out ownx.reads_any.2 roomx.out (by have := Hsz.out; omega)
  rw [Hop.out] at hO1
  cases r with
  | none =>
    unfold OpenedE at hO1
    have HO1 := hd hO1
    clear hO1
    go_wp2_with (first
      | (refine wpl_load_arr rfl 25 _ rfl _ rfl 12 Rc.agg12 nonce Hn.out hS2.bn.cells_arr ?_)
      | (go_at_call 11; refine HO1.out.mono ?_; rintro e W3 ⟨rfl, hB3⟩; have hS3 := hS2.next hB3; have ownx3 := ownx.later hB3; have hO2 := Rc.ropen_ok s n Hok.out A c key nonce Hn.out D p q aside A2 m c2 xs W3 hS3.rk hS3.ra ownx3.reads_any.2 roomx.out (by have := Hsz.out; omega); rw [Hop.out] at hO2; unfold OpenedE at hO2; have HO2 := hd hO2; clear hO2)
      | (refine wpl_load_arr rfl 25 _ rfl _ rfl 12 Rc.agg12 nonce Hn.out hS3.bn.cells_arr ?_)
      | (go_at_call 12; refine HO2.out.mono ?_; rintro e W4 ⟨rfl, hB4⟩; have hS4 := hS3.next hB4)
      | (with_reducible change wpList _ _ _ (⟨some 75, _, _, _, _, _⟩ :: _) _ _; refine wpl_run (o := ⟨some 75, _, _, _, _, _⟩) (by simp [Region.wanted, yielded, Act.put]) (.bool false) (run_neqF (by rfl) [] [] rfl (by simp [Act.eval, Act.put]) (by simp [Act.eval, Act.put]) _) ?_)
      | rw [Hnil.out])
    go_ret
    exact ⟨rfl, hS4.old⟩
  | some l =>
    have Hfo := hd (Rc.forth s key nonce aside xs l Hop.out)
    have Hll := hd (show l.length + 16 = m by rw [Lxs.out, ← Hfo.out, Rec.sealOf_len])
    obtain ⟨L, HL⟩ : ∃ x, Hd (l.length = x) := ⟨_, ⟨rfl⟩⟩
    unfold OpenedE at hO1
    have HO1 := hd hO1
    clear hO1
    go_wp2_with (refine wpl_load_arr rfl 25 _ rfl _ rfl 12 Rc.agg12 nonce Hn.out hS2.bn.cells_arr ?_)
    refine HO1.out.mono ?_
    rintro e W3 ⟨v1, rfl, own1, hB3⟩
    obtain ⟨A1, c1, e1⟩ := own1.slice
    rw [HL.out] at e1
    subst e1
    have hS3 := hS2.next hB3
    have ownx3 := ownx.later hB3
    have hO2 := Rc.ropen_ok s n Hok.out A c key nonce Hn.out D p q aside A2 m c2 xs W3 hS3.rk hS3.ra ownx3.reads_any.2 roomx.out (by have := Hsz.out; omega)
    rw [Hop.out] at hO2
    unfold OpenedE at hO2
    have HO2 := hd hO2
    clear hO2 hS2 ownx hB3
    go_wp2_with (refine wpl_load_arr rfl 25 _ rfl _ rfl 12 Rc.agg12 nonce Hn.out hS3.bn.cells_arr ?_)
    refine HO2.out.mono ?_
    rintro e W4 ⟨v2, rfl, own2, hB4⟩
    obtain ⟨A4, c4, e4⟩ := own2.slice
    rw [HL.out] at e4
    subst e4
    have hS4 := hS3.next hB4
    have ownx4 := ownx3.later hB4
    have own1b := own1.later hB4
    have Hs1 := hd (run_toString (P := Try.prog) Try.underlying24 Try.underlying5 Try.underlying9 _ A1 L c1 l own1b.reads_any.2)
    have Hs2 := hd (run_toString (P := Try.prog) Try.underlying24 Try.underlying5 Try.underlying9 _ A4 L c4 l own2.reads_any.2)
    have HSe := hd (suiteSeal_ok s n Hok.out A c key nonce Hn.out D p q aside A1 L c1 l W4 hS4.rk hS4.ra Hpq.out own1b.reads_any.2 own1b.room (by have := Hsz.out; have := Hll.out; have := HL.out; omega))
    rw [Hfo.out] at HSe
    clear hS3 ownx3 own1 own2 own1b hB4
    go_wp2_with (first
      | (with_reducible change wpList _ _ _ (⟨some 75, _, _, _, _, _⟩ :: _) _ _; refine wpl_run (o := ⟨some 75, _, _, _, _, _⟩) (by simp [Region.wanted, yielded, Act.put]) (.bool false) (run_neqF (by rfl) l l rfl (by simp [Act.eval, Act.put]) (by simp [Act.eval, Act.put]) _) ?_)
      | rw [Hs1.out]
      | rw [Hs2.out]
      | (refine wpl_load_arr rfl 25 _ rfl _ rfl 12 Rc.agg12 nonce Hn.out hS4.bn.cells_arr ?_)
      | (go_at_call 9; refine HSe.out.mono ?_; rintro e W5 ⟨v5, rfl, own5, hB5⟩; have hS5 := hS4.next hB5; have ownx5 := ownx4.later hB5; obtain ⟨A5, c5, e5⟩ := own5.slice; rw [← Lxs.out] at e5; subst e5; have Hs5 := hd (run_toString (P := Try.prog) Try.underlying24 Try.underlying5 Try.underlying9 _ A5 m c5 xs own5.reads_any.2); have Hs6 := hd (run_toString (P := Try.prog) Try.underlying24 Try.underlying5 Try.underlying9 _ A2 m c2 xs ownx5.reads_any.2)))
    go_wp2_with (first
      | (with_reducible change wpList _ _ _ (⟨some 98, _, _, _, _, _⟩ :: _) _ _; refine wpl_run (o := ⟨some 98, _, _, _, _, _⟩) (by simp [Region.wanted, yielded, Act.put]) (.bool true) (run_eqT (by rfl) xs xs rfl (by simp [Act.eval, Act.put]) (by simp [Act.eval, Act.put]) _) ?_)
      | rw [Hs5.out]
      | rw [Hs6.out])
    go_ret
    exact ⟨rfl, hS5.old⟩
set_option maxHeartbeats 8000000 in
set_option maxRecDepth 100000 in
theorem Rc.opens_not (s : UInt16) (A : Option Addr) (n c : Nat) (key nonce : List UInt8) (D : Option Addr) (p q : Nat) (aside : List UInt8) (E : Option Addr) (m d : Nat) (text : List UInt8) (at_ : UInt16) (by_ : UInt8) (w : World)
    (hr : ReadsB w w.heap.size A n key) (hn : nonce.length = 12) (ha : ReadsB w w.heap.size D p aside) (hpq : p ≤ q) (hq : q ≤ 1048576) (ht : ReadsB w w.heap.size E m text) (hmd : m ≤ d) (hdm : d ≤ 1048576) (r : Int) (hr0 : ¬ r = 0)
    (hopen : ∀ (X Y : Value) (w : World), Calls Try.prog 11 #[.int .u16 ((n16 s : Nat) : Int), .slice A n c, .agg (arr nonce), X, Y] w fun e w' => e = .returned (.tuple #[.slice none 0 0, .int .i64 r]) ∧ Below w.heap.size w w')
    (hropen : ∀ (X Y : Value) (w : World), Calls Try.prog 12 #[.int .u16 ((n16 s : Nat) : Int), .slice A n c, .agg (arr nonce), X, Y] w fun e w' => e = .returned (.tuple #[.slice none 0 0, .int .i64 r]) ∧ Below w.heap.size w w') :
    Calls Try.prog 4 #[.int .u16 ((n16 s : Nat) : Int), .slice A n c, .agg (arr nonce), .slice D p q, .slice E m d, .int .u16 ((n16 at_ : Nat) : Int), .int .u8 ((n8 by_ : Nat) : Int)] w fun e w' => e = .returned (.bool true) ∧ Below w.heap.size w w' := by
  have Hn := hd hn
  have Hpq := hd hpq
  have Hsz := hd (show m ≤ d ∧ p ≤ 1048576 ∧ m ≤ 1048576 by omega)
  have Hr0 := hd hr
  have Ha0 := hd ha
  have Ht0 := hd ht
  have hB0 := (Below.refl w.heap.size w).alloc (Nat.le_refl _) (.cells (arr nonce) 25)
  have hS0 : Rc.Os w nonce A n key D p aside E m text (w.alloc (.cells (arr nonce) 25)) := ⟨Blk.nu rfl, hr.onward hB0, ha.onward hB0, ht.onward hB0, hB0⟩
  clear hn hpq hq hr ha ht hmd hdm hB0
  have H2 := hd hopen
  have H3 := hd hropen
  clear hopen hropen
  have Hnil := hd (fun w => run_toString (P := Try.prog) Try.underlying24 Try.underlying5 Try.underlying9 _ none 0 0 [] (Rc.nilB w))
  go_enter Try.func4, Try.ntmps4
  go_wp2_with fail
  refine (head10_any _).mono ?_
  rintro e W1 ⟨rfl, hB1⟩
  have hS1 := hS0.next hB1
  clear hS0 hB1
  have own0 := OwnB.empty (w := W1) (Nat.le_refl W1.heap.size)
  have hr1 : ReadsB (W1.alloc (.cells #[] 5)) W1.heap.size E m text := ⟨hS1.rt.len, hS1.rt.is.alloc (Nat.le_refl _) _⟩
  have hcl : ([] : List UInt8).length + text.length ≤ 140737488355328 := by rw [hS1.rt.len]; have := Hsz.out; simp; omega
  have hBs : W1.heap.size ≤ (W1.alloc (.cells #[] 5)).heap.size := by simp
  have hBa : Below W1.heap.size W1 (W1.alloc (.cells #[] 5)) := (Below.refl _ _).alloc (Nat.le_refl _) _
  have hw1 : w.heap.size + 1 ≤ W1.heap.size := hS1.bn.lt
  go_upto_if 30 with (at_builtin; refine wpl_appendB rfl _ _ rfl W1.heap.size (.slice (some ⟨W1.heap.size, 0, none⟩) 0 0) [] rfl own0 W1.heap.size E m d text rfl hr1 hcl hBs ?_; intro v2 W2 own2 gr2 at2; rw [List.nil_append] at own2; obtain ⟨A2, c2, e2⟩ := own2.slice; rw [hS1.rt.len] at e2; subst e2)
  have hS2 := hS1.next (below_appended hBa own0 gr2 (Nat.le_refl _) hBs)
  have own3 := own2.low hw1
  clear own0 hr1 hcl hBs hBa gr2 at2 own2 hS1 hw1
  have hw1 := hS2.bn.lt
  go_cut [17] (fun _ wx => ∃ xs, OwnB wx (w.heap.size + 1) (.slice A2 m c2) xs ∧ Rc.Os w nonce A n key D p aside E m text wx)
  case first =>
    by_cases h0 : 0 < m
    · have t0 : (0 : Int) < (m : Int) := by omega
      have hl := own3.reads_any.1
      obtain ⟨g, c9, e9, hg, _, _⟩ := own3.form (by rw [← hl]; exact h0)
      rw [← hl] at e9
      injection e9 with e9 _ e10
      subst e9 e10
      obtain ⟨k, Hk⟩ : ∃ k, Hd (n16 at_ % m = k) := ⟨_, ⟨rfl⟩⟩
      have hkm := hd (show k < m by rw [← Hk.out]; exact Nat.mod_lt _ h0)
      have tk : (k : Int) < (m : Int) := by have := hkm.out; omega
      have hm0 : ¬ (m : Int) = 0 := by omega
      have own4 : OwnB W2 (w.heap.size + 1) (.slice (some ⟨g, 0, none⟩) text.length c2) text := by rw [← hl]; exact own3
      have ck := own4.cell k (by rw [← hl]; exact hkm.out)
      have fk := own4.frozen k
      have own5 := own4.set_ k (nth text k ^^^ by_)
      rw [← hl] at own5
      have hB5 : Below g W2 (W2.setCell ⟨g, k, none⟩ (.int .u8 (n8 (nth text k ^^^ by_)))) := (Below.refl g W2).setCell (Nat.le_refl _) _
      have hS5 : Rc.Os w nonce A n key D p aside E m text (W2.setCell ⟨g, k, none⟩ (.int .u8 (n8 (nth text k ^^^ by_)))) := by
        have hb := hS2.old
        have hb2 : Below w.heap.size w (W2.setCell ⟨g, k, none⟩ (.int .u8 (n8 (nth text k ^^^ by_)))) := hb.setCell (by simp only []; omega) _
        exact ⟨hS2.bn.far (by simp only []; omega) _, ⟨Hr0.out.len, (Hr0.out.is.below hb2).more hb2.size⟩, ⟨Ha0.out.len, (Ha0.out.is.below hb2).more hb2.size⟩, ⟨Ht0.out.len, (Ht0.out.is.below hb2).more hb2.size⟩, hb2⟩
      clear h0 hl own4 own3 hS2 hB5
      go_wp2_with (first
        | (with_reducible change wpList _ _ _ (⟨some 32, _, _, _, _, _⟩ :: _) _ _; refine wpl_run (o := ⟨some 32, _, _, _, _, _⟩) (wanted_plain rfl) (.int .i64 ((n16 at_ : Nat) : Int)) (Rc.conv16 (by rfl) at_ (by simp [Act.eval, Act.put])) ?_)
        | (with_reducible change wpList _ _ _ (⟨some 35, _, _, _, _, _⟩ :: _) _ _; refine wpl_run (o := ⟨some 35, _, _, _, _, _⟩) (wanted_plain rfl) (.int .i64 ((k : Nat) : Int)) (Rc.remN (by rfl) (n16 at_) m k (by have := hkm.out; omega) Hk.out (by simp [Act.eval, Act.put]) (by simp [Act.eval, Act.put])) ?_))
      go_meet
      exact ⟨_, own5, hS5⟩
    · have t0 : ¬ (0 : Int) < (m : Int) := by omega
      go_wp2
      go_meet
      exact ⟨_, own3, hS2⟩
  case rest =>
  clear own3 hS2 hw1
  obtain ⟨xs, ownx, hS2⟩ := hcut
  obtain ⟨W2, rfl⟩ : ∃ wx : World, wx = wc := ⟨_, rfl⟩
  have Lxs := hd ownx.reads_any.1
  have roomx := hd ownx.room
  go_wp2_with (first
    | (refine wpl_load_arr rfl 25 _ rfl _ rfl 12 Rc.agg12 nonce Hn.out hS2.bn.cells_arr ?_)
    | (go_at_call 11; refine (H2.out _ _ _).mono ?_; rintro e W3 ⟨rfl, hB3⟩; have hS3 := hS2.next hB3)
    | (refine wpl_load_arr rfl 25 _ rfl _ rfl 12 Rc.agg12 nonce Hn.out hS3.bn.cells_arr ?_)
    | (go_at_call 12; refine (H3.out _ _ _).mono ?_; rintro e W4 ⟨rfl, hB4⟩; have hS4 := hS3.next hB4)
    | (with_reducible change wpList _ _ _ (⟨some 75, _, _, _, _, _⟩ :: _) _ _; refine wpl_run (o := ⟨some 75, _, _, _, _, _⟩) (by simp [Region.wanted, yielded, Act.put]) (.bool false) (run_neqF (by rfl) [] [] rfl (by simp [Act.eval, Act.put]) (by simp [Act.eval, Act.put]) _) ?_)
    | rw [Hnil.out])
  go_ret
  exact ⟨rfl, hS4.old⟩
theorem suiteOpens_any (s : UInt16) (A : Option Addr) (n c : Nat) (key nonce : List UInt8) (D : Option Addr) (p q : Nat) (aside : List UInt8) (E : Option Addr) (m d : Nat) (text : List UInt8) (at_ : UInt16) (by_ : UInt8) (w : World)
    (hr : ReadsB w w.heap.size A n key) (_ : n ≤ c) (_ : c ≤ 1048576) (hn : nonce.length = 12) (ha : ReadsB w w.heap.size D p aside) (hpq : p ≤ q) (hq : q ≤ 1048576) (ht : ReadsB w w.heap.size E m text) (hmd : m ≤ d) (hdm : d ≤ 1048576) :
    Calls Try.prog 4 #[.int .u16 ((n16 s : Nat) : Int), .slice A n c, .agg (arr nonce), .slice D p q, .slice E m d, .int .u16 ((n16 at_ : Nat) : Int), .int .u8 ((n8 by_ : Nat) : Int)] w fun e w' => e = .returned (.bool true) ∧ Below w.heap.size w w' := by
  by_cases h1 : s = 4865
  · subst h1
    by_cases hk : n = 16
    · exact Rc.opens_ok _ A n c key nonce D p q aside E m d text at_ by_ w hr hn ha hpq hq ht hmd hdm (.inl ⟨rfl, hk⟩)
    · exact Rc.opens_not _ A n c key nonce D p q aside E m d text at_ by_ w hr hn ha hpq hq ht hmd hdm 102 (by decide) (fun X Y w => suiteOpenNot_128 A n c hk nonce X Y w) (fun X Y w => Rc.openNo 4865 A n c nonce X Y w 102 (by decide) (fun w => Rc.may_not 4865 16 n (.inl ⟨rfl, rfl⟩) hk A c w))
  · by_cases h2 : s = 4866
    · subst h2
      by_cases hk : n = 32
      · exact Rc.opens_ok _ A n c key nonce D p q aside E m d text at_ by_ w hr hn ha hpq hq ht hmd hdm (.inr (.inl ⟨rfl, hk⟩))
      · exact Rc.opens_not _ A n c key nonce D p q aside E m d text at_ by_ w hr hn ha hpq hq ht hmd hdm 102 (by decide) (fun X Y w => suiteOpenNot_256 A n c hk nonce X Y w) (fun X Y w => Rc.openNo 4866 A n c nonce X Y w 102 (by decide) (fun w => Rc.may_not 4866 32 n (.inr (.inl ⟨rfl, rfl⟩)) hk A c w))
    · by_cases h3 : s = 4867
      · subst h3
        by_cases hk : n = 32
        · exact Rc.opens_ok _ A n c key nonce D p q aside E m d text at_ by_ w hr hn ha hpq hq ht hmd hdm (.inr (.inr ⟨rfl, hk⟩))
        · exact Rc.opens_not _ A n c key nonce D p q aside E m d text at_ by_ w hr hn ha hpq hq ht hmd hdm 102 (by decide) (fun X Y w => suiteOpenNot_cha A n c hk nonce X Y w) (fun X Y w => Rc.openNo 4867 A n c nonce X Y w 102 (by decide) (fun w => Rc.may_not 4867 32 n (.inr (.inr ⟨rfl, rfl⟩)) hk A c w))
      · have e1 : (s == 4865) = false := by simpa using h1
        have e2 : (s == 4866) = false := by simpa using h2
        have e3 : (s == 4867) = false := by simpa using h3
        exact Rc.opens_not s A n c key nonce D p q aside E m d text at_ by_ w hr hn ha hpq hq ht hmd hdm 101 (by decide) (fun X Y w => suiteOpenNone s e1 e2 e3 A n c nonce X Y w) (fun X Y w => Rc.openNo s A n c nonce X Y w 101 (by decide) (fun w => Rc.may_none s e1 e2 e3 A n c w))
end Go.Proofs.Ytbcboldepghgpaa
