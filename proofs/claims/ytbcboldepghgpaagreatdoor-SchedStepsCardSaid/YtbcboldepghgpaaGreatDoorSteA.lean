/-
  The rest of the steps: the program's Binder, Resumed; the reference's zeros, none, Early, Handshake, Master, Update, Finished, Binder, Resumed.
-/
import Derived.Test.YtbcboldepghgpaaGreatDoorLawA
import Derived.Test.YtbcboldepghgpaaGreatDoorSchR
set_option linter.unusedVariables false
set_option linter.unusedSimpArgs false
set_option maxRecDepth 100000
namespace Go.Proofs.YtbcboldepghgpaaGreatDoor
open Go.RowKit
namespace Sched
def lBinder : List UInt8 := [114, 101, 115, 32, 98, 105, 110, 100, 101, 114]
def lResumed : List UInt8 := [114, 101, 115, 117, 109, 112, 116, 105, 111, 110]
def lKey : List UInt8 := [107, 101, 121]
def lIv : List UInt8 := [105, 118]
def binder (h : Int) (psk sum : List UInt8) : List UInt8 := Mac.code h (derive h (derive h (early h psk) lBinder (Sha.sum h [])) lFinished []) sum
theorem early_len (h : Int) (psk : List UInt8) : (early h psk).length ≤ 64 := by unfold early; rw [Mac.code_len]; exact Mac.size_le h
end Sched
/-- A list under a name, with its length. -/
theorem named (l : List UInt8) : ∃ x n, Hd (l = x) ∧ Hd (x.length = n) := ⟨l, l.length, ⟨rfl⟩, ⟨rfl⟩⟩
theorem resumed_any (h : Int) (A : Option Addr) (m c : Nat) (key : List UInt8) (D : Option Addr) (k d : Nat) (sum : List UInt8) (w : World) (hr : ReadsB w w.heap.size A m key) (hm : m ≤ 140737488355000) (hi : ReadsB w w.heap.size D k sum) (htb : Tabs w) :
    Calls Tryz.prog 19 #[.int .i64 h, .slice A m c, .slice D k d] w fun e w' => ∃ v, e = .returned v ∧ OwnB w' w.heap.size v (Sched.derive h key Sched.lResumed sum) ∧ Below w.heap.size w w' := by
  go_enter Tryz.func19, Tryz.ntmps19
  go_wp2_with (first | (go_at_call 35; refine (derive_any h A m c key Sched.lResumed D k d sum w hr hm hi htb).mono ?_; rintro e w2 ⟨v2, rfl, own2, hB2⟩))
  go_ret
  exact ⟨_, rfl, own2, hB2⟩
theorem rresumed_any (h : Int) (A : Option Addr) (m c : Nat) (key : List UInt8) (D : Option Addr) (k d : Nat) (sum : List UInt8) (w : World) (hr : ReadsB w w.heap.size A m key) (hm : m ≤ 140737488353000) (hi : ReadsB w w.heap.size D k sum) :
    Calls Tryz.prog 20 #[.int .i64 h, .slice A m c, .slice D k d] w fun e w' => ∃ v, e = .returned v ∧ OwnB w' w.heap.size v (Sched.derive h key Sched.lResumed sum) ∧ Below w.heap.size w w' := by
  go_enter Tryz.func20, Tryz.ntmps20
  go_wp2_with (first | (go_at_call 27; refine (rderive_any h A m c key Sched.lResumed D k d sum w hr hm hi).mono ?_; rintro e w2 ⟨v2, rfl, own2, hB2⟩))
  go_ret
  exact ⟨_, rfl, own2, hB2⟩
theorem rupdate_any (h : Int) (A : Option Addr) (m c : Nat) (key : List UInt8) (w : World) (hr : ReadsB w w.heap.size A m key) (hm : m ≤ 140737488353000) :
    Calls Tryz.prog 14 #[.int .i64 h, .slice A m c] w fun e w' => ∃ v, e = .returned v ∧ OwnB w' w.heap.size v (Sched.derive h key Sched.lUpdate []) ∧ Below w.heap.size w w' := by
  go_enter Tryz.func14, Tryz.ntmps14
  go_wp2_with (first | (go_at_call 27; refine (rderive_any h A m c key Sched.lUpdate none 0 0 [] w hr hm ⟨rfl, Reads.none_⟩).mono ?_; rintro e w2 ⟨v2, rfl, own2, hB2⟩))
  go_ret
  exact ⟨_, rfl, own2, hB2⟩
theorem rextract_any (h : Int) (A : Option Addr) (n c : Nat) (key : List UInt8) (D : Option Addr) (m d : Nat) (b : List UInt8) (w : World) (hr : ReadsB w w.heap.size A n key) (hn : n ≤ 140737488353000) (hb : ReadsB w w.heap.size D m b) (hm : m ≤ 140737488353000) :
    Calls Tryz.prog 25 #[.int .i64 h, .slice A n c, .slice D m d] w fun e w' => ∃ v, e = .returned v ∧ OwnB w' w.heap.size v (Mac.code h key b) ∧ Below w.heap.size w w' := by
  go_enter Tryz.func25, Tryz.ntmps25
  go_wp2_with (first | (go_at_call 37; refine (rmac_any h A n c key D m d b w hr hn hb hm).mono ?_; rintro e w2 ⟨v2, rfl, own2, hB2⟩))
  go_ret
  exact ⟨_, rfl, own2, hB2⟩
theorem rzeros_any (h : Int) (w : World) : Calls Tryz.prog 24 #[.int .i64 h] w fun e w' => ∃ v, e = .returned v ∧ OwnB w' w.heap.size v (Sched.zeros h) ∧ Below w.heap.size w w' := by
  have hsl := Mac.size_le h
  obtain ⟨n, HS⟩ : ∃ x, Hd (Sha.size h = x) := ⟨_, ⟨rfl⟩⟩
  rw [HS.out] at hsl
  have HZ := hd (show Sched.zeros h = List.replicate n 0 by rw [Sched.zeros, HS.out])
  obtain ⟨w2, hmk, own2, gr2⟩ := run_makeI w w.heap.size n n (Nat.le_refl _) (by omega) (Nat.le_refl _)
  have hB2 : Below w.heap.size w w2 := below_new (Below.refl _ _) gr2 (Nat.le_refl _)
  rw [HZ.out]
  go_enter Tryz.func24, Tryz.ntmps24
  go_wp2_with (first | (go_at_call 40; refine (rsize_any h w).mono ?_; rintro e wz ⟨rfl, rfl⟩; rw [HS.out]))
  go_ret
  exact ⟨_, rfl, own2, hB2⟩
theorem rnone_any (h : Int) (w : World) : Calls Tryz.prog 28 #[.int .i64 h] w fun e w' => ∃ v, e = .returned v ∧ OwnB w' w.heap.size v (Sha.sum h []) ∧ Below w.heap.size w w' := by
  go_enter Tryz.func28, Tryz.ntmps28
  go_wp2_with (first | (go_at_call 42; refine (rof_any h none 0 0 [] w ⟨rfl, Reads.none_⟩ (by omega)).mono ?_; rintro e w2 ⟨v2, rfl, own2, hB2⟩))
  go_ret
  exact ⟨_, rfl, own2, hB2⟩
theorem Sha.sum_le (h : Int) (l : List UInt8) : (Sha.sum h l).length ≤ 64 := by rw [Sha.sum_len]; exact Mac.size_le h
theorem Mac.code_le (h : Int) (key l : List UInt8) : (Mac.code h key l).length ≤ 64 := Sha.sum_le h _

set_option maxHeartbeats 2000000 in
set_option maxRecDepth 100000 in
theorem rfinished_any (h : Int) (A : Option Addr) (m c : Nat) (key : List UInt8) (D : Option Addr) (k d : Nat) (sum : List UInt8) (w : World) (hr : ReadsB w w.heap.size A m key) (hm : m ≤ 140737488353000) (hi : ReadsB w w.heap.size D k sum) (hk : k ≤ 140737488353000) :
    Calls Tryz.prog 16 #[.int .i64 h, .slice A m c, .slice D k d] w fun e w' => ∃ v, e = .returned v ∧ OwnB w' w.heap.size v (Mac.code h (Sched.derive h key Sched.lFinished []) sum) ∧ Below w.heap.size w w' := by
  obtain ⟨K, nK, HK, HKl⟩ := named (Sched.derive h key Sched.lFinished [])
  have hK : nK ≤ 64 := by rw [← HKl.out, ← HK.out]; exact Sched.derive_len _ _ _ _
  rw [HK.out]
  go_enter Tryz.func16, Tryz.ntmps16
  go_wp2_with (first | (go_at_call 37; refine (rmac_any h A1 nK c1 K D k d sum w1 r1 (by omega) ⟨hi.len, (hi.is.below hB1).more hB1.size⟩ hk).mono ?_; rintro e w2 ⟨v2, rfl, own2, hB2⟩) | (go_at_call 27; refine (rderive_any h A m c key Sched.lFinished none 0 0 [] w hr hm ⟨rfl, Reads.none_⟩).mono ?_; rintro e w1 ⟨v1, rfl, own1, hB1⟩; rw [HK.out] at own1; obtain ⟨A1, c1, e1⟩ := own1.slice; rw [HKl.out] at e1; subst e1; have r1 : ReadsB w1 w1.heap.size A1 nK K := ⟨HKl.out, own1.reads_any.2.is⟩))
  go_ret
  exact ⟨_, rfl, own2.low hB1.size, hB1.trans (hB2.mono hB1.size)⟩
set_option maxHeartbeats 2000000 in
set_option maxRecDepth 100000 in
theorem rearly_any (h : Int) (A : Option Addr) (m c : Nat) (psk : List UInt8) (w : World) (hr : ReadsB w w.heap.size A m psk) (hm : m ≤ 140737488353000) :
    Calls Tryz.prog 6 #[.int .i64 h, .slice A m c] w fun e w' => ∃ v, e = .returned v ∧ OwnB w' w.heap.size v (Sched.early h psk) ∧ Below w.heap.size w w' := by
  have hlen := hr.len
  obtain ⟨Z, nZ, HZ, HZl⟩ := named (Sched.zeros h)
  have hZ : nZ ≤ 64 := by rw [← HZl.out, ← HZ.out, Sched.zeros_len]; exact Mac.size_le h
  by_cases h0 : m = 0
  · have HE := hd (show Sched.early h psk = Mac.code h Z Z by rw [Sched.early, if_pos (by omega), HZ.out])
    rw [HE.out]
    subst h0
    go_enter Tryz.func6, Tryz.ntmps6
    go_wp2_with (first | (go_at_call 25; refine (rextract_any h A2 nZ c2 Z A1 nZ c1 Z w2 r2 (by omega) ⟨r1.len, (r1.is.below hB2).more hB2.size⟩ (by omega)).mono ?_; rintro e w3 ⟨v3, rfl, own3, hB3⟩) | (go_at_call 24; refine (rzeros_any h w1).mono ?_; rintro e w2 ⟨v2, rfl, own2, hB2⟩; rw [HZ.out] at own2; obtain ⟨A2, c2, e2⟩ := own2.slice; rw [HZl.out] at e2; subst e2; have r2 : ReadsB w2 w2.heap.size A2 nZ Z := ⟨HZl.out, own2.reads_any.2.is⟩; have hB12 := hB1.trans (hB2.mono hB1.size)) | (go_at_call 24; refine (rzeros_any h w).mono ?_; rintro e w1 ⟨v1, rfl, own1, hB1⟩; rw [HZ.out] at own1; obtain ⟨A1, c1, e1⟩ := own1.slice; rw [HZl.out] at e1; subst e1; have r1 : ReadsB w1 w1.heap.size A1 nZ Z := ⟨HZl.out, own1.reads_any.2.is⟩))
    go_ret
    exact ⟨_, rfl, own3.low hB12.size, hB12.trans (hB3.mono hB12.size)⟩
  · have HE := hd (show Sched.early h psk = Mac.code h Z psk by rw [Sched.early, if_neg (by omega), HZ.out])
    have h0' : ¬ (m : Int) = 0 := by omega
    rw [HE.out]
    go_enter Tryz.func6, Tryz.ntmps6
    go_wp2_with (first | (go_at_call 25; refine (rextract_any h A1 nZ c1 Z A m c psk w1 r1 (by omega) ⟨hr.len, (hr.is.below hB1).more hB1.size⟩ hm).mono ?_; rintro e w3 ⟨v3, rfl, own3, hB3⟩) | (go_at_call 24; refine (rzeros_any h w).mono ?_; rintro e w1 ⟨v1, rfl, own1, hB1⟩; rw [HZ.out] at own1; obtain ⟨A1, c1, e1⟩ := own1.slice; rw [HZl.out] at e1; subst e1; have r1 : ReadsB w1 w1.heap.size A1 nZ Z := ⟨HZl.out, own1.reads_any.2.is⟩))
    go_ret
    exact ⟨_, rfl, own3.low hB1.size, hB1.trans (hB3.mono hB1.size)⟩
theorem Sched.salt_le (h : Int) (fr : List UInt8) : (Sched.saltOf h fr).length ≤ 64 := Sched.derive_len _ _ _ _
set_option maxHeartbeats 2000000 in
set_option maxRecDepth 100000 in
theorem rhandshake_any (h : Int) (A : Option Addr) (m c : Nat) (fr : List UInt8) (D : Option Addr) (k d : Nat) (more : List UInt8) (w : World) (hr : ReadsB w w.heap.size A m fr) (hm : m ≤ 140737488353000) (hi : ReadsB w w.heap.size D k more) (hk : k ≤ 140737488353000) :
    Calls Tryz.prog 8 #[.int .i64 h, .slice A m c, .slice D k d] w fun e w' => ∃ v, e = .returned v ∧ OwnB w' w.heap.size v (Mac.code h (Sched.saltOf h fr) more) ∧ Below w.heap.size w w' := by
  obtain ⟨K, nK, HK, HKl⟩ := named (Sched.saltOf h fr)
  have hK : nK ≤ 64 := by rw [← HKl.out, ← HK.out]; exact Sched.salt_le _ _
  obtain ⟨S, nS, HS, HSl⟩ := named (Sha.sum h [])
  have HKs := hd (show Sched.derive h fr Sched.lDerived S = K by rw [← HK.out, ← HS.out]; rfl)
  rw [HK.out]
  go_enter Tryz.func8, Tryz.ntmps8
  go_wp2_with (first | (go_at_call 25; refine (rextract_any h A2 nK c2 K D k d more w2 r2 (by omega) ⟨hi.len, (hi.is.below hB12).more hB12.size⟩ hk).mono ?_; rintro e w3 ⟨v3, rfl, own3, hB3⟩) | (go_at_call 27; refine (rderive_any h A m c fr Sched.lDerived A1 nS c1 S w1 ⟨hr.len, (hr.is.below hB1).more hB1.size⟩ hm r1).mono ?_; rintro e w2 ⟨v2, rfl, own2, hB2⟩; rw [HKs.out] at own2; obtain ⟨A2, c2, e2⟩ := own2.slice; rw [HKl.out] at e2; subst e2; have r2 : ReadsB w2 w2.heap.size A2 nK K := ⟨HKl.out, own2.reads_any.2.is⟩; have hB12 := hB1.trans (hB2.mono hB1.size)) | (go_at_call 28; refine (rnone_any h w).mono ?_; rintro e w1 ⟨v1, rfl, own1, hB1⟩; rw [HS.out] at own1; obtain ⟨A1, c1, e1⟩ := own1.slice; rw [HSl.out] at e1; subst e1; have r1 : ReadsB w1 w1.heap.size A1 nS S := ⟨HSl.out, own1.reads_any.2.is⟩))
  go_ret
  exact ⟨_, rfl, own3.low hB12.size, hB12.trans (hB3.mono hB12.size)⟩
set_option maxHeartbeats 2000000 in
set_option maxRecDepth 100000 in
theorem rmaster_any (h : Int) (A : Option Addr) (m c : Nat) (fr : List UInt8) (w : World) (hr : ReadsB w w.heap.size A m fr) (hm : m ≤ 140737488353000) :
    Calls Tryz.prog 10 #[.int .i64 h, .slice A m c] w fun e w' => ∃ v, e = .returned v ∧ OwnB w' w.heap.size v (Mac.code h (Sched.saltOf h fr) (Sched.zeros h)) ∧ Below w.heap.size w w' := by
  obtain ⟨K, nK, HK, HKl⟩ := named (Sched.saltOf h fr)
  have hK : nK ≤ 64 := by rw [← HKl.out, ← HK.out]; exact Sched.salt_le _ _
  obtain ⟨S, nS, HS, HSl⟩ := named (Sha.sum h [])
  obtain ⟨Z, nZ, HZ, HZl⟩ := named (Sched.zeros h)
  have hZ : nZ ≤ 64 := by rw [← HZl.out, ← HZ.out, Sched.zeros_len]; exact Mac.size_le h
  have HKs := hd (show Sched.derive h fr Sched.lDerived S = K by rw [← HK.out, ← HS.out]; rfl)
  rw [HK.out, HZ.out]
  go_enter Tryz.func10, Tryz.ntmps10
  go_wp2_with (first | (go_at_call 25; refine (rextract_any h A2 nK c2 K A3 nZ c3 Z w3 ⟨r2.len, (r2.is.below hB3).more hB3.size⟩ (by omega) r3 (by omega)).mono ?_; rintro e w4 ⟨v4, rfl, own4, hB4⟩) | (go_at_call 24; refine (rzeros_any h w2).mono ?_; rintro e w3 ⟨v3, rfl, own3, hB3⟩; rw [HZ.out] at own3; obtain ⟨A3, c3, e3⟩ := own3.slice; rw [HZl.out] at e3; subst e3; have r3 : ReadsB w3 w3.heap.size A3 nZ Z := ⟨HZl.out, own3.reads_any.2.is⟩; have hB13 := hB12.trans (hB3.mono hB12.size)) | (go_at_call 27; refine (rderive_any h A m c fr Sched.lDerived A1 nS c1 S w1 ⟨hr.len, (hr.is.below hB1).more hB1.size⟩ hm r1).mono ?_; rintro e w2 ⟨v2, rfl, own2, hB2⟩; rw [HKs.out] at own2; obtain ⟨A2, c2, e2⟩ := own2.slice; rw [HKl.out] at e2; subst e2; have r2 : ReadsB w2 w2.heap.size A2 nK K := ⟨HKl.out, own2.reads_any.2.is⟩; have hB12 := hB1.trans (hB2.mono hB1.size)) | (go_at_call 28; refine (rnone_any h w).mono ?_; rintro e w1 ⟨v1, rfl, own1, hB1⟩; rw [HS.out] at own1; obtain ⟨A1, c1, e1⟩ := own1.slice; rw [HSl.out] at e1; subst e1; have r1 : ReadsB w1 w1.heap.size A1 nS S := ⟨HSl.out, own1.reads_any.2.is⟩))
  go_ret
  exact ⟨_, rfl, own4.low hB13.size, hB13.trans (hB4.mono hB13.size)⟩
set_option maxHeartbeats 2000000 in
set_option maxRecDepth 100000 in
theorem binder_any (h : Int) (A : Option Addr) (m c : Nat) (psk : List UInt8) (D : Option Addr) (k d : Nat) (sum : List UInt8) (w : World) (hr : ReadsB w w.heap.size A m psk) (hm : m ≤ 140737488355000) (hi : ReadsB w w.heap.size D k sum) (hk : k ≤ 140737488355000) (htb : Tabs w) :
    Calls Tryz.prog 17 #[.int .i64 h, .slice A m c, .slice D k d] w fun e w' => ∃ v, e = .returned v ∧ OwnB w' w.heap.size v (Sched.binder h psk sum) ∧ Below w.heap.size w w' := by
  obtain ⟨E, nE, HE, HEl⟩ := named (Sched.early h psk)
  have hE : nE ≤ 64 := by rw [← HEl.out, ← HE.out]; exact Sched.early_len _ _
  obtain ⟨S, nS, HS, HSl⟩ := named (Sha.sum h [])
  have hS : nS ≤ 64 := by rw [← HSl.out, ← HS.out]; exact Sha.sum_le _ _
  obtain ⟨K, nK, HK, HKl⟩ := named (Sched.derive h E Sched.lBinder S)
  have hK : nK ≤ 64 := by rw [← HKl.out, ← HK.out]; exact Sched.derive_len _ _ _ _
  have HR := hd (show Sched.binder h psk sum = Mac.code h (Sched.derive h K Sched.lFinished []) sum by rw [Sched.binder, HE.out, HS.out, HK.out])
  rw [HR.out]
  go_enter Tryz.func17, Tryz.ntmps17
  go_wp2_with (first | (go_at_call 15; refine (finished_any h A3 nK c3 K D k d sum w3 r3 (by omega) ⟨hi.len, (hi.is.below hB13).more hB13.size⟩ hk (htb.below hB13)).mono ?_; rintro e w4 ⟨v4, rfl, own4, hB4⟩) | (go_at_call 35; refine (derive_any h A1 nE c1 E Sched.lBinder A2 nS c2 S w2 ⟨r1.len, (r1.is.below hB2).more hB2.size⟩ (by omega) r2 (htb.below hB12)).mono ?_; rintro e w3 ⟨v3, rfl, own3, hB3⟩; rw [HK.out] at own3; obtain ⟨A3, c3, e3⟩ := own3.slice; rw [HKl.out] at e3; subst e3; have r3 : ReadsB w3 w3.heap.size A3 nK K := ⟨HKl.out, own3.reads_any.2.is⟩; have hB13 := hB12.trans (hB3.mono hB12.size)) | (go_at_call 38; refine (of_any h none 0 0 [] w1 (Parts.none _ _) (by omega) (htb.below hB1)).mono ?_; rintro e w2 ⟨v2, rfl, own2, hB2⟩; rw [show joined [] = [] from rfl, HS.out] at own2; obtain ⟨A2, c2, e2⟩ := own2.slice; rw [HSl.out] at e2; subst e2; have r2 : ReadsB w2 w2.heap.size A2 nS S := ⟨HSl.out, own2.reads_any.2.is⟩; have hB12 := hB1.trans (hB2.mono hB1.size)) | (go_at_call 5; refine (early_any h A m c psk w hr hm htb).mono ?_; rintro e w1 ⟨v1, rfl, own1, hB1⟩; rw [HE.out] at own1; obtain ⟨A1, c1, e1⟩ := own1.slice; rw [HEl.out] at e1; subst e1; have r1 : ReadsB w1 w1.heap.size A1 nE E := ⟨HEl.out, own1.reads_any.2.is⟩))
  go_ret
  exact ⟨_, rfl, own4.low hB13.size, hB13.trans (hB4.mono hB13.size)⟩
set_option maxHeartbeats 2000000 in
set_option maxRecDepth 100000 in
theorem rbinder_any (h : Int) (A : Option Addr) (m c : Nat) (psk : List UInt8) (D : Option Addr) (k d : Nat) (sum : List UInt8) (w : World) (hr : ReadsB w w.heap.size A m psk) (hm : m ≤ 140737488353000) (hi : ReadsB w w.heap.size D k sum) (hk : k ≤ 140737488353000) :
    Calls Tryz.prog 18 #[.int .i64 h, .slice A m c, .slice D k d] w fun e w' => ∃ v, e = .returned v ∧ OwnB w' w.heap.size v (Sched.binder h psk sum) ∧ Below w.heap.size w w' := by
  obtain ⟨E, nE, HE, HEl⟩ := named (Sched.early h psk)
  have hE : nE ≤ 64 := by rw [← HEl.out, ← HE.out]; exact Sched.early_len _ _
  obtain ⟨S, nS, HS, HSl⟩ := named (Sha.sum h [])
  have hS : nS ≤ 64 := by rw [← HSl.out, ← HS.out]; exact Sha.sum_le _ _
  obtain ⟨K, nK, HK, HKl⟩ := named (Sched.derive h E Sched.lBinder S)
  have hK : nK ≤ 64 := by rw [← HKl.out, ← HK.out]; exact Sched.derive_len _ _ _ _
  have HR := hd (show Sched.binder h psk sum = Mac.code h (Sched.derive h K Sched.lFinished []) sum by rw [Sched.binder, HE.out, HS.out, HK.out])
  rw [HR.out]
  go_enter Tryz.func18, Tryz.ntmps18
  go_wp2_with (first | (go_at_call 16; refine (rfinished_any h A3 nK c3 K D k d sum w3 r3 (by omega) ⟨hi.len, (hi.is.below hB13).more hB13.size⟩ hk).mono ?_; rintro e w4 ⟨v4, rfl, own4, hB4⟩) | (go_at_call 27; refine (rderive_any h A1 nE c1 E Sched.lBinder A2 nS c2 S w2 ⟨r1.len, (r1.is.below hB2).more hB2.size⟩ (by omega) r2).mono ?_; rintro e w3 ⟨v3, rfl, own3, hB3⟩; rw [HK.out] at own3; obtain ⟨A3, c3, e3⟩ := own3.slice; rw [HKl.out] at e3; subst e3; have r3 : ReadsB w3 w3.heap.size A3 nK K := ⟨HKl.out, own3.reads_any.2.is⟩; have hB13 := hB12.trans (hB3.mono hB12.size)) | (go_at_call 28; refine (rnone_any h w1).mono ?_; rintro e w2 ⟨v2, rfl, own2, hB2⟩; rw [HS.out] at own2; obtain ⟨A2, c2, e2⟩ := own2.slice; rw [HSl.out] at e2; subst e2; have r2 : ReadsB w2 w2.heap.size A2 nS S := ⟨HSl.out, own2.reads_any.2.is⟩; have hB12 := hB1.trans (hB2.mono hB1.size)) | (go_at_call 6; refine (rearly_any h A m c psk w hr hm).mono ?_; rintro e w1 ⟨v1, rfl, own1, hB1⟩; rw [HE.out] at own1; obtain ⟨A1, c1, e1⟩ := own1.slice; rw [HEl.out] at e1; subst e1; have r1 : ReadsB w1 w1.heap.size A1 nE E := ⟨HEl.out, own1.reads_any.2.is⟩))
  go_ret
  exact ⟨_, rfl, own4.low hB13.size, hB13.trans (hB4.mono hB13.size)⟩
end Go.Proofs.YtbcboldepghgpaaGreatDoor
