/-
  The walk of SchedOwn.
-/
import Derived.Test.YtkacibgbpeeflaaDoorLawA
import Derived.Test.YtkacibgbpeeflaaDoorHeldP
import Derived.Deep.DeepCutAuto
set_option linter.unusedVariables false
set_option linter.unusedSimpArgs false
namespace Go.Proofs.YtkacibgbpeeflaaDoor
open Go.RowKit
theorem Mac.nth_zeros (n i : Nat) : nth (List.replicate n (0 : UInt8)) i = 0 := by
  unfold nth
  rw [List.getD_eq_getElem?_getD, List.getElem?_replicate]
  split <;> rfl
theorem Mac.padb_zeros (n : Nat) (x : UInt8) : ∀ k, Mac.padb (List.replicate n 0) x k = Mac.padb [] x k
  | 0 => rfl
  | k + 1 => by rw [Mac.padb, Mac.padb, Mac.padb_zeros n x k, Mac.nth_zeros]; rfl
theorem Sha.size_block (h : Int) : Sha.size h ≤ Sha.blockLen h := by unfold Sha.size Sha.blockLen; (repeat' split) <;> omega
/-- A key of noughts is none. -/
theorem Mac.code_zeros (h : Int) (l : List UInt8) : Mac.code h (Sched.zeros h) l = Mac.code h [] l := by
  have hb := Sha.size_block h
  have e1 : Mac.keyOf h (Sched.zeros h) = List.replicate (Sha.size h) 0 := by
    unfold Mac.keyOf
    rw [Sched.zeros_len, if_neg (by omega)]; rfl
  have e2 : Mac.keyOf h [] = [] := by
    unfold Mac.keyOf
    rw [if_neg (by simp)]
  unfold Mac.code
  rw [e1, e2, Mac.padb_zeros, Mac.padb_zeros]
theorem Sched.early_is (h : Int) (l : List UInt8) (M : Nat) (hM : M = if l.length = 0 then Sha.size h else 0) : Sched.early h l = Mac.code h [] (l ++ List.replicate M 0) := by
  unfold Sched.early
  rw [Mac.code_zeros, hM]
  by_cases h0 : l.length = 0
  · rw [if_pos h0, if_pos h0, List.length_eq_zero_iff.1 h0]; rfl
  · rw [if_neg h0, if_neg h0, List.replicate_zero, List.append_nil]
theorem Sched.early_nil (h : Int) : Sched.early h [] = Sched.early h (Sched.zeros h) := by
  unfold Sched.early
  have e : ∀ l : List UInt8, (if ([] : List UInt8).length = 0 then l else []) = l := fun l => if_pos rfl
  rw [e]
  split <;> rfl

theorem enter_update (args : Array Value) (w : World) : (callFunc 23 args).run Tryd.prog w = .ok (.enter 23 args) w := by kernel_rfl
theorem enter_finished (args : Array Value) (w : World) : (callFunc 24 args).run Tryd.prog w = .ok (.enter 24 args) w := by kernel_rfl
theorem enter_macof (args : Array Value) (w : World) : (callFunc 25 args).run Tryd.prog w = .ok (.enter 25 args) w := by kernel_rfl
theorem enter_handshake (args : Array Value) (w : World) : (callFunc 26 args).run Tryd.prog w = .ok (.enter 26 args) w := by kernel_rfl
theorem enter_extract (args : Array Value) (w : World) : (callFunc 27 args).run Tryd.prog w = .ok (.enter 27 args) w := by kernel_rfl
theorem enter_master (args : Array Value) (w : World) : (callFunc 28 args).run Tryd.prog w = .ok (.enter 28 args) w := by kernel_rfl
theorem enter_early (args : Array Value) (w : World) : (callFunc 22 args).run Tryd.prog w = .ok (.enter 22 args) w := by kernel_rfl
set_option maxHeartbeats 16000000 in
set_option maxRecDepth 100000 in
theorem own_law (h : Int) (A1 : Option Addr) (n1 c1 : Nat) (sec : List UInt8) (A2 : Option Addr) (n2 c2 : Nat) (sh : List UInt8) (A3 : Option Addr) (n3 c3 : Nat) (sum : List UInt8) (w : World) (hr1 : ReadsB w w.heap.size A1 n1 sec) (hn1 : n1 ≤ 140737488351232) (hr2 : ReadsB w w.heap.size A2 n2 sh) (hn2 : n2 ≤ 140737488351232) (hr3 : ReadsB w w.heap.size A3 n3 sum) (hn3 : n3 ≤ 140737488351232) (hc3 : n3 ≤ c3) (htb0 : Tabs w) :
    Calls Tryd.prog 5 #[.int .i64 h, .slice A1 n1 c1, .slice A2 n2 c2, .slice A3 n3 c3] w fun e w' => e = .returned (.bool true) ∧ Below w.heap.size w w' := by
  obtain ⟨S, HS⟩ : ∃ x, Hd (Sha.size h = x) := ⟨_, ⟨rfl⟩⟩
  have hsl := Mac.size_le h
  rw [HS.out] at hsl
  obtain ⟨S9, HS9⟩ : ∃ x, Hd (Sha.sum h (joined []) = x) := ⟨_, ⟨rfl⟩⟩
  obtain ⟨NX, HNXe⟩ : ∃ x, Hd (Sched.expand h sec Sched.lUpdate [] (S : Int) = x) := ⟨_, ⟨rfl⟩⟩
  obtain ⟨KY, HKY⟩ : ∃ x, Hd (Sched.expand h sec Sched.lFinished [] (S : Int) = x) := ⟨_, ⟨rfl⟩⟩
  obtain ⟨SA, HSA⟩ : ∃ x, Hd (Sched.derive h sec Sched.lDerived S9 = x) := ⟨_, ⟨rfl⟩⟩
  obtain ⟨er1, HER1⟩ : ∃ x, Hd (Sched.err h Sched.lUpdate [] (S : Int) = x) := ⟨_, ⟨rfl⟩⟩
  obtain ⟨er2, HER2⟩ : ∃ x, Hd (Sched.err h Sched.lFinished [] (S : Int) = x) := ⟨_, ⟨rfl⟩⟩
  obtain ⟨m3, Hm3⟩ : ∃ x, Hd (min n3 255 = x) := ⟨_, ⟨rfl⟩⟩
  obtain ⟨sm, Hsm⟩ : ∃ x, Hd (sum.take 255 = x) := ⟨_, ⟨rfl⟩⟩
  have hm3 : m3 ≤ 255 := by have := Hm3.out; omega
  have hr3' : ReadsB w w.heap.size A3 m3 sm := by
    rw [← Hsm.out]
    have e : sum.take 255 = sum.take m3 := by
      by_cases hb : n3 ≤ 255
      · rw [List.take_of_length_le (by rw [hr3.len]; omega), List.take_of_length_le (by rw [hr3.len]; have := Hm3.out; omega)]
      · have : m3 = 255 := by have := Hm3.out; omega
        rw [this]
    rw [e]
    exact hr3.take (by have := Hm3.out; omega)
  have rd1 : ∀ W, Below w.heap.size w W → ReadsB W W.heap.size A1 n1 sec := fun W hW => ⟨hr1.len, (hr1.is.below hW).more hW.size⟩
  go_enter Tryd.func5, Tryd.ntmps5
  go_upto_if 23 with (first | (go_at_call 6; refine (head19_any w htb0).mono ?_; rintro e w1 ⟨rfl, hw1⟩))
  go_cut [3] (fun s3 wx => s3 = .slice A3 m3 c3 ∧ wx = w1)
  case first =>
    by_cases hb : 255 < n3
    · have t1 : (255 : Int) < (n3 : Int) := by omega
      have e3 : m3 = 255 := by have := Hm3.out; omega
      have hc : (255 : Int) ≤ (c3 : Int) := by omega
      subst e3
      go_wp2
      go_meet
      exact ⟨rfl, rfl⟩
    · have t1 : ¬ (255 : Int) < (n3 : Int) := by omega
      have e3 : m3 = n3 := by have := Hm3.out; omega
      subst e3
      go_wp2
      go_meet
      exact ⟨rfl, rfl⟩
  case rest =>
  obtain ⟨rfl, hwc⟩ := hcut
  rw [hwc]
  clear hwc
  obtain ⟨w2, hmk, oz, grz⟩ := run_makeI w1 w1.heap.size S S (Nat.le_refl _) (by omega) (Nat.le_refl _)
  have hw2 : Below w.heap.size w w2 := hw1.trans ((below_new (Below.refl w1.heap.size w1) grz (Nat.le_refl _)).mono hw1.size)
  obtain ⟨gz, Hgz⟩ : ∃ x, Hd (w1.heap.size = x) := ⟨_, ⟨rfl⟩⟩
  rw [Hgz.out] at hmk oz
  go_upto_region 9 with (first | (go_at_call 9; refine (derive_any h A1 n1 c1 sec Sched.lDerived A9 n9 c9 S9 w5 (rd1 w5 hw5) (by omega) r9 (htb0.below hw5)).mono ?_; rintro e w6 ⟨v16, rfl, o16, hE6⟩; rw [HSA.out] at o16; obtain ⟨A16, c16, e16⟩ := o16.slice; obtain ⟨n16, Hn16⟩ : ∃ x, Hd (List.length SA = x) := ⟨_, ⟨rfl⟩⟩; rw [Hn16.out] at e16; subst e16; have hw6 := hw5.trans (hE6.mono hw5.size)) | (go_at_call 21; refine (of_any h none 0 0 [] w4 (Parts.none _ _) (by omega) (htb0.below hw4)).mono ?_; rintro e w5 ⟨v9, rfl, o9, hE5⟩; rw [HS9.out] at o9; obtain ⟨A9, c9, e9⟩ := o9.slice; obtain ⟨n9, Hn9⟩ : ∃ x, Hd (List.length S9 = x) := ⟨_, ⟨rfl⟩⟩; rw [Hn9.out] at e9; subst e9; have r9 : ReadsB w5 w5.heap.size A9 n9 S9 := ⟨Hn9.out, o9.reads_any.2.is⟩; have hw5 := hw4.trans (hE5.mono hw4.size)) | (go_at_call 7; refine (sexpand_any h A1 n1 c1 sec Sched.lFinished none 0 0 [] (S : Int) w3 (rd1 w3 hw3) (by omega) ⟨rfl, Reads.none_⟩ (htb0.below hw3)).mono ?_; rintro e w4 ⟨v14, rfl, o14, hE4⟩; rw [HKY.out] at o14; rw [HER2.out]; obtain ⟨A14, c14, e14⟩ := o14.slice; obtain ⟨n14, Hn14⟩ : ∃ x, Hd (List.length KY = x) := ⟨_, ⟨rfl⟩⟩; rw [Hn14.out] at e14; subst e14; have hw4 := hw3.trans (hE4.mono hw3.size)) | (go_at_call 7; refine (sexpand_any h A1 n1 c1 sec Sched.lUpdate none 0 0 [] (S : Int) w2 (rd1 w2 hw2) (by omega) ⟨rfl, Reads.none_⟩ (htb0.below hw2)).mono ?_; rintro e w3 ⟨v12, rfl, o12, hE3⟩; rw [HNXe.out] at o12; rw [HER1.out]; obtain ⟨A12, c12, e12⟩ := o12.slice; obtain ⟨n12, Hn12⟩ : ∃ x, Hd (List.length NX = x) := ⟨_, ⟨rfl⟩⟩; rw [Hn12.out] at e12; subst e12; have hw3 := hw2.trans (hE3.mono hw2.size)) | (go_at_call 20; refine (size_any h w1).mono ?_; rintro e wz ⟨rfl, rfl⟩; rw [HS.out]))
  have HS9e := hd (show Sha.sum h [] = S9 from HS9.out)
  have HNX := hd (show Sched.derive h sec Sched.lUpdate [] = NX by rw [← HNXe.out, Sched.derive, HS.out])
  have HKYd := hd (show Sched.derive h sec Sched.lFinished [] = KY by rw [← HKY.out, Sched.derive, HS.out])
  have HSAs := hd (show Sched.saltOf h sec = SA by rw [← HSA.out, ← HS9e.out]; rfl)
  have hn14 : n14 ≤ 64 := by rw [← Hn14.out, ← HKYd.out]; exact Sched.derive_len _ _ _ _
  have hn16 : n16 ≤ 64 := by rw [← Hn16.out, ← HSAs.out]; exact Sched.derive_len _ _ _ _
  have htb := htb0.below hw6
  have r1 := rd1 w6 hw6
  by_cases h0 : S = 0
  · subst h0
    have hrf : ∀ lab ctx, Sched.refused h 0 lab ctx := fun lab ctx => .inl HS.out
    have hER1 : er1 = 191 := by rw [← HER1.out]; unfold Sched.err; exact if_pos (hrf _ _)
    have hER2 : er2 = 191 := by rw [← HER2.out]; unfold Sched.err; exact if_pos (hrf _ _)
    have hSA0 : SA = [] := by rw [← HSA.out]; unfold Sched.derive Sched.expand; rw [HS.out]; exact if_pos (hrf _ _)
    have hn0 : n16 = 0 := by rw [← Hn16.out, hSA0]; rfl
    have hE0 : Sched.early h sec = [] := List.length_eq_zero_iff.1 (by unfold Sched.early; rw [Mac.code_len, HS.out])
    subst hn0
    subst hER1
    subst hER2
    go_wp2_with (first | (go_at_call 22; refine (early_any h A1 n1 c1 sec w6 r1 (by omega) htb).mono ?_; rintro e w7 ⟨v7, rfl, o7, hE7⟩; rw [hE0] at o7; obtain ⟨A7, c7, e7⟩ := o7.slice; rw [List.length_nil] at e7; subst e7))
    go_ret
    exact ⟨rfl, hw6.trans (hE7.mono hw6.size)⟩
  · have h0' : ¬ (S : Int) = 0 := by omega
    have hrf : ∀ lab : List UInt8, lab.length ≤ 249 → ¬ Sched.refused h (S : Int) lab [] := fun lab hl => by
      unfold Sched.refused; rw [HS.out]; simp only [List.length_nil]; omega
    have hER1 : er1 = 0 := by rw [← HER1.out]; unfold Sched.err; exact if_neg (hrf _ (by decide))
    have hER2 : er2 = 0 := by rw [← HER2.out]; unfold Sched.err; exact if_neg (hrf _ (by decide))
    subst hER1
    subst hER2
    have r2 : ReadsB w6 w6.heap.size A2 n2 sh := ⟨hr2.len, (hr2.is.below hw6).more hw6.size⟩
    have r3 : ReadsB w6 w6.heap.size A3 m3 sm := ⟨hr3'.len, (hr3'.is.below hw6).more hw6.size⟩
    have hB56 : Below w5.heap.size w5 w6 := hE6
    have hB46 : Below w4.heap.size w4 w6 := hE5.trans (hE6.mono hE5.size)
    have hB36 : Below w3.heap.size w3 w6 := hE4.trans (hB46.mono hE4.size)
    have hB26 : Below w2.heap.size w2 w6 := hE3.trans (hB36.mono hE3.size)
    have r12 : ReadsB w6 w6.heap.size A12 n12 NX := ⟨Hn12.out, ((o12.reads_any.2.is).below hB36).more hB36.size⟩
    have r14 : ReadsB w6 w6.heap.size A14 n14 KY := ⟨Hn14.out, ((o14.reads_any.2.is).below hB46).more hB46.size⟩
    have r16 : ReadsB w6 w6.heap.size A16 n16 SA := ⟨Hn16.out, o16.reads_any.2.is⟩
    obtain ⟨ZZ, HZZ⟩ : ∃ x, Hd (List.replicate S (0 : UInt8) = x) := ⟨_, ⟨rfl⟩⟩
    have HZe := hd (show Sched.zeros h = ZZ by rw [← HZZ.out, Sched.zeros, HS.out])
    rw [HZZ.out] at oz
    have rz : ReadsB w6 w6.heap.size (some ⟨gz, 0, none⟩) S ZZ := ⟨by rw [← HZZ.out, List.length_replicate], ((oz.reads_any.2.is).below hB26).more hB26.size⟩
    obtain ⟨q1, Hq1⟩ : ∃ x, Hd (min 1 n2 = x) := ⟨_, ⟨rfl⟩⟩
    obtain ⟨q2, Hq2⟩ : ∃ x, Hd (1 - q1 = x) := ⟨_, ⟨rfl⟩⟩
    obtain ⟨M, HM⟩ : ∃ x, Hd (S * q2 = x) := ⟨_, ⟨rfl⟩⟩
    have hn2l := r2.len
    have HMe := hd (show M = if sh.length = 0 then Sha.size h else 0 by
      rw [← HM.out, ← Hq2.out, ← Hq1.out, HS.out, hn2l]
      by_cases hz : n2 = 0
      · subst hz; simp
      · rw [if_neg hz, show 1 - min 1 n2 = 0 by omega, Nat.mul_zero])
    have hMS : M ≤ S := by rw [HMe.out]; split <;> (try rw [HS.out]) <;> omega
    obtain ⟨ZM, HZM⟩ : ∃ x, Hd (List.replicate M (0 : UInt8) = x) := ⟨_, ⟨rfl⟩⟩
    have rm : ReadsB w6 w6.heap.size (some ⟨gz, 0, none⟩) M ZM := by
      have h1 := rz.take hMS
      rw [← HZZ.out, List.take_replicate, Nat.min_eq_left hMS, HZM.out] at h1
      exact h1
    obtain ⟨XX, HXX⟩ : ∃ x, Hd (sh ++ ZM = x) := ⟨_, ⟨rfl⟩⟩
    have HXl := hd (show List.length XX ≤ 140737488354000 by rw [← HXX.out, List.length_append, hn2l, rm.len]; omega)
    obtain ⟨FN1, HFN2⟩ : ∃ x, Hd (Mac.code h KY sm = x) := ⟨_, ⟨rfl⟩⟩
    have HFN := hd (show Mac.code h (Sched.derive h sec Sched.lFinished []) sm = FN1 by rw [HKYd.out, HFN2.out])
    obtain ⟨HS1, HHS2⟩ : ∃ x, Hd (Mac.code h SA sh = x) := ⟨_, ⟨rfl⟩⟩
    have HHS := hd (show Mac.code h (Sched.saltOf h sec) sh = HS1 by rw [HSAs.out, HHS2.out])
    obtain ⟨MS1, HMS2⟩ : ∃ x, Hd (Mac.code h SA ZZ = x) := ⟨_, ⟨rfl⟩⟩
    have HMS := hd (show Mac.code h (Sched.saltOf h sec) (Sched.zeros h) = MS1 by rw [HSAs.out, HZe.out, HMS2.out])
    obtain ⟨EA, HEA⟩ : ∃ x, Hd (Sched.early h [] = x) := ⟨_, ⟨rfl⟩⟩
    have HEA2 := hd (show Sched.early h ZZ = EA by rw [← HZe.out, ← Sched.early_nil, HEA.out])
    obtain ⟨EB, HEB⟩ : ∃ x, Hd (Sched.early h sh = x) := ⟨_, ⟨rfl⟩⟩
    have HEB2 := hd (show Mac.code h [] XX = EB by rw [← HEB.out, Sched.early_is h sh M HMe.out, HZM.out, HXX.out])
    have e1 : (if (n2 : Int) < 1 then (n2 : Int) else 1) = (q1 : Int) := by have := Hq1.out; split <;> omega
    have e2 : (1 : Int) - (q1 : Int) = (q2 : Int) := by have := Hq1.out; have := Hq2.out; omega
    have e3 : (S : Int) * (q2 : Int) = (M : Int) := by rw [← HM.out, Int.natCast_mul]
    have e4 : IntKind.i64.wrap (q2 : Int) = (q2 : Int) := IntWalk.i64_in _ (by have := Hq2.out; omega)
    have e5 : IntKind.i64.wrap (M : Int) = (M : Int) := IntWalk.i64_in _ (by omega)
    have e6 : max (0 : Int) (M : Int) = (M : Int) := by omega
    clear o12 o14 o16 oz hE3 hE4 hE5 hE6 hB56 hB46 hB36 hB26
    go_upto_region 11 with fail
    go_cut [17] (fun s17 wx => s17 = .bool true ∧ Below w6.heap.size w6 wx)
    case first =>
      refine p_start (Held w6 [] []) (by kernel_rfl) (Held.nil (Below.refl _ _).drew) ?_
      refine p_take 0 (o := _) rfl (by kernel_rfl) (by kernel_rfl) (by kernel_rfl) (wanted_plain rfl) (.int .i64 h) (fun _ _ _ h => h) (fun W hW => run_move (by rfl) (by simp [Act.eval]) W) ?_
      simp only [Act.put, List.getElem_toArray, List.getElem_cons_succ, List.getElem_cons_zero, List.setIfInBounds_toArray, List.set_cons_zero, List.set_cons_succ]
      refine p_take 1 (o := _) rfl (by kernel_rfl) (by kernel_rfl) (by kernel_rfl) (wanted_plain rfl) (.slice A1 n1 c1) (fun _ _ _ h => h) (fun W hW => run_move (by rfl) (by simp [Act.eval]) W) ?_
      simp only [Act.put, List.getElem_toArray, List.getElem_cons_succ, List.getElem_cons_zero, List.setIfInBounds_toArray, List.set_cons_zero, List.set_cons_succ]
      refine p_take 4 (o := _) rfl (by kernel_rfl) (by kernel_rfl) (by kernel_rfl) (wanted_plain rfl) (.slice A12 n12 c12) (fun _ _ _ h => h) (fun W hW => run_move (by rfl) (by simp [Act.eval]) W) ?_
      simp only [Act.put, List.getElem_toArray, List.getElem_cons_succ, List.getElem_cons_zero, List.setIfInBounds_toArray, List.set_cons_zero, List.set_cons_succ]
      refine p_take 5 (o := _) rfl (by kernel_rfl) (by kernel_rfl) (by kernel_rfl) (wanted_plain rfl) (.string (str NX)) (fun _ _ _ h => h) (fun W hW => run_toStr (by rfl) Tryd.underlying23 Tryd.underlying5 Tryd.underlying9 _ A12 n12 c12 NX (by simp [Act.eval]) (hW.reads0 r12)) ?_
      simp only [Act.put, List.getElem_toArray, List.getElem_cons_succ, List.getElem_cons_zero, List.setIfInBounds_toArray, List.set_cons_zero, List.set_cons_succ]
      refine p_one 2 (by kernel_rfl) (fun W hW _ => ?_)
      refine op_call (o := _) rfl (wanted_plain rfl) 23 _ _ rfl #[.int .i64 h, .slice A1 n1 c1] (by simp [Act.eval]) (enter_update _) ?_
      refine (update_any h A1 n1 c1 sec W (hW.reads0 r1) (by omega) (hW.tabs htb)).mono ?_
      rintro e W' ⟨v, rfl, own, hE⟩
      rw [HNX.out] at own
      obtain ⟨Au, cu, e1⟩ := own.slice
      obtain ⟨nu, Hnu⟩ : ∃ x, Hd (List.length NX = x) := ⟨_, ⟨rfl⟩⟩
      rw [Hnu.out] at e1
      subst e1
      have hrd : ReadsB W' W'.heap.size Au nu NX := ⟨Hnu.out, own.reads_any.2.is⟩
      have hN : Held w6 (⟨Au, nu, cu, NX⟩ :: []) [] W' := (hW.below hE).cons hrd
      refine ⟨_, rfl, Next.mk (Held w6 (⟨Au, nu, cu, NX⟩ :: []) []) (fun _ => True) (fun _ h => h.tail) hN trivial ?_⟩
      clear hN hrd own hE hW
      simp only [Act.put, List.getElem_toArray, List.getElem_cons_succ, List.getElem_cons_zero, List.setIfInBounds_toArray, List.set_cons_zero, List.set_cons_succ]
      refine p_take 3 (o := _) rfl (by kernel_rfl) (by kernel_rfl) (by kernel_rfl) (wanted_plain rfl) (.string (str NX)) (fun _ _ _ h => h) (fun W hW => run_toStr (by rfl) Tryd.underlying23 Tryd.underlying5 Tryd.underlying9 _ Au nu cu NX (by simp [Act.eval]) (hW.reads ⟨Au, nu, cu, NX⟩ (by simp))) ?_
      simp only [Act.put, List.getElem_toArray, List.getElem_cons_succ, List.getElem_cons_zero, List.setIfInBounds_toArray, List.set_cons_zero, List.set_cons_succ]
      refine p_take 6 (o := _) rfl (by kernel_rfl) (by kernel_rfl) (by kernel_rfl) (wanted_plain rfl) (.bool true) (fun _ _ _ h => h) (fun W hW => run_eqT (by rfl) NX NX (rfl) (by simp [Act.eval]) (by simp [Act.eval]) W) ?_
      simp only [Act.put, List.getElem_toArray, List.getElem_cons_succ, List.getElem_cons_zero, List.setIfInBounds_toArray, List.set_cons_zero, List.set_cons_succ]
      refine p_take 7 (o := _) rfl (by kernel_rfl) (by kernel_rfl) (by kernel_rfl) (wanted_plain rfl) (.bool true) (fun _ _ _ h => h) (fun W hW => run_move (by rfl) (by simp [Act.eval]) W) ?_
      simp only [Act.put, List.getElem_toArray, List.getElem_cons_succ, List.getElem_cons_zero, List.setIfInBounds_toArray, List.set_cons_zero, List.set_cons_succ]
      refine p_take 8 (o := _) rfl (by kernel_rfl) (by kernel_rfl) (by kernel_rfl) (by simp [Region.wanted, yielded]) (.int .i64 h) (fun _ _ _ h => h) (fun W hW => run_move (by rfl) (by simp [Act.eval]) W) ?_
      simp only [Act.put, List.getElem_toArray, List.getElem_cons_succ, List.getElem_cons_zero, List.setIfInBounds_toArray, List.set_cons_zero, List.set_cons_succ]
      refine p_take 9 (o := _) rfl (by kernel_rfl) (by kernel_rfl) (by kernel_rfl) (by simp [Region.wanted, yielded]) (.slice A1 n1 c1) (fun _ _ _ h => h) (fun W hW => run_move (by rfl) (by simp [Act.eval]) W) ?_
      simp only [Act.put, List.getElem_toArray, List.getElem_cons_succ, List.getElem_cons_zero, List.setIfInBounds_toArray, List.set_cons_zero, List.set_cons_succ]
      refine p_take 10 (o := _) rfl (by kernel_rfl) (by kernel_rfl) (by kernel_rfl) (by simp [Region.wanted, yielded]) (.slice A3 m3 c3) (fun _ _ _ h => h) (fun W hW => run_move (by rfl) (by simp [Act.eval]) W) ?_
      simp only [Act.put, List.getElem_toArray, List.getElem_cons_succ, List.getElem_cons_zero, List.setIfInBounds_toArray, List.set_cons_zero, List.set_cons_succ]
      refine p_take 13 (o := _) rfl (by kernel_rfl) (by kernel_rfl) (by kernel_rfl) (by simp [Region.wanted, yielded]) (.int .i64 h) (fun _ _ _ h => h) (fun W hW => run_move (by rfl) (by simp [Act.eval]) W) ?_
      simp only [Act.put, List.getElem_toArray, List.getElem_cons_succ, List.getElem_cons_zero, List.setIfInBounds_toArray, List.set_cons_zero, List.set_cons_succ]
      refine p_take 14 (o := _) rfl (by kernel_rfl) (by kernel_rfl) (by kernel_rfl) (by simp [Region.wanted, yielded]) (.slice A14 n14 c14) (fun _ _ _ h => h) (fun W hW => run_move (by rfl) (by simp [Act.eval]) W) ?_
      simp only [Act.put, List.getElem_toArray, List.getElem_cons_succ, List.getElem_cons_zero, List.setIfInBounds_toArray, List.set_cons_zero, List.set_cons_succ]
      refine p_take 15 (o := _) rfl (by kernel_rfl) (by kernel_rfl) (by kernel_rfl) (by simp [Region.wanted, yielded]) (.slice A3 m3 c3) (fun _ _ _ h => h) (fun W hW => run_move (by rfl) (by simp [Act.eval]) W) ?_
      simp only [Act.put, List.getElem_toArray, List.getElem_cons_succ, List.getElem_cons_zero, List.setIfInBounds_toArray, List.set_cons_zero, List.set_cons_succ]
      refine p_two 11 16 (by kernel_rfl) (fun W hW _ => ?_) (fun W hW _ => ?_)
      · refine op_call (o := _) rfl (by simp [Region.wanted, yielded]) 24 _ _ rfl #[.int .i64 h, .slice A1 n1 c1, .slice A3 m3 c3] (by simp [Act.eval]) (enter_finished _) ?_
        refine (finished_any h A1 n1 c1 sec A3 m3 c3 sm W (hW.reads0 r1) (by omega) (hW.reads0 r3) (by omega) (hW.tabs htb)).mono ?_
        rintro e W' ⟨v, rfl, own, hE⟩
        rw [HFN.out] at own
        obtain ⟨Af, cf, e1⟩ := own.slice
        obtain ⟨nf, Hnf⟩ : ∃ x, Hd (List.length FN1 = x) := ⟨_, ⟨rfl⟩⟩
        rw [Hnf.out] at e1
        subst e1
        have hrd : ReadsB W' W'.heap.size Af nf FN1 := ⟨Hnf.out, own.reads_any.2.is⟩
        have hN : Held w6 (⟨Af, nf, cf, FN1⟩ :: [⟨Au, nu, cu, NX⟩]) [] W' := (hW.below hE).cons hrd
        refine ⟨_, rfl, Next.mk (Held w6 (⟨Af, nf, cf, FN1⟩ :: [⟨Au, nu, cu, NX⟩]) []) (fun _ => True) (fun _ h => h.tail) hN trivial ?_⟩
        clear hN hrd own hE hW
        simp only [Act.put, List.getElem_toArray, List.getElem_cons_succ, List.getElem_cons_zero, List.setIfInBounds_toArray, List.set_cons_zero, List.set_cons_succ]
        refine p_take 12 (o := _) rfl (by kernel_rfl) (by kernel_rfl) (by kernel_rfl) (by simp [Region.wanted, yielded]) (.string (str FN1)) (fun _ _ _ h => h) (fun W hW => run_toStr (by rfl) Tryd.underlying23 Tryd.underlying5 Tryd.underlying9 _ Af nf cf FN1 (by simp [Act.eval]) (hW.reads ⟨Af, nf, cf, FN1⟩ (by simp))) ?_
        simp only [Act.put, List.getElem_toArray, List.getElem_cons_succ, List.getElem_cons_zero, List.setIfInBounds_toArray, List.set_cons_zero, List.set_cons_succ]
        refine p_one 16 (by kernel_rfl) (fun W hW _ => ?_)
        refine op_do (o := _) rfl (by simp [Region.wanted, yielded]) (.slice (some ⟨W.heap.size, 0, none⟩) 1 1) (W.alloc (.cells #[.slice A3 m3 c3] 23)) (by go_simp) ?_
        have hE : Below W.heap.size W (W.alloc (.cells #[.slice A3 m3 c3] 23)) := (Below.refl _ _).alloc (Nat.le_refl _) _
        have hp := parts_one (c := c3) (hW.reads0 r3) (show m3 ≤ 140737488355000 by omega)
        obtain ⟨gp, Hgp⟩ : ∃ x, Hd (W.heap.size = x) := ⟨_, ⟨rfl⟩⟩
        rw [Hgp.out] at hp ⊢
        refine Next.mk (Held w6 [⟨Af, nf, cf, FN1⟩, ⟨Au, nu, cu, NX⟩] [(gp, [⟨A3, m3, c3, sm⟩])]) (fun _ => True) (fun _ h => h.tailP) ((hW.below hE).consP hp) trivial ?_
        clear hp hE hW
        simp only [Act.put, List.getElem_toArray, List.getElem_cons_succ, List.getElem_cons_zero, List.setIfInBounds_toArray, List.set_cons_zero, List.set_cons_succ]
        refine p_one 17 (by kernel_rfl) (fun W hW _ => ?_)
        refine op_call (o := _) rfl (by simp [Region.wanted, yielded]) 25 _ _ rfl #[.int .i64 h, .slice A14 n14 c14, .slice (some ⟨gp, 0, none⟩) 1 1] (by simp [Act.eval]) (enter_macof _) ?_
        refine (macOf_any h A14 n14 c14 KY (some ⟨gp, 0, none⟩) 1 1 [⟨A3, m3, c3, sm⟩] W (hW.reads0 r14) (by omega) (hW.parts (gp, [⟨A3, m3, c3, sm⟩]) (by simp)) (by omega) (hW.tabs htb)).mono ?_
        rintro e W' ⟨v, rfl, own, hE⟩
        rw [joined_one, HFN2.out] at own
        obtain ⟨Ag, cg, e1⟩ := own.slice
        obtain ⟨ng, Hng⟩ : ∃ x, Hd (List.length FN1 = x) := ⟨_, ⟨rfl⟩⟩
        rw [Hng.out] at e1
        subst e1
        have hrd : ReadsB W' W'.heap.size Ag ng FN1 := ⟨Hng.out, own.reads_any.2.is⟩
        have hN : Held w6 (⟨Ag, ng, cg, FN1⟩ :: [⟨Af, nf, cf, FN1⟩, ⟨Au, nu, cu, NX⟩]) [(gp, [⟨A3, m3, c3, sm⟩])] W' := (hW.below hE).cons hrd
        refine ⟨_, rfl, Next.mk (Held w6 (⟨Ag, ng, cg, FN1⟩ :: [⟨Af, nf, cf, FN1⟩, ⟨Au, nu, cu, NX⟩]) [(gp, [⟨A3, m3, c3, sm⟩])]) (fun _ => True) (fun _ h => h.tail) hN trivial ?_⟩
        clear hN hrd own hE hW
        simp only [Act.put, List.getElem_toArray, List.getElem_cons_succ, List.getElem_cons_zero, List.setIfInBounds_toArray, List.set_cons_zero, List.set_cons_succ]
        refine p_take 18 (o := _) rfl (by kernel_rfl) (by kernel_rfl) (by kernel_rfl) (by simp [Region.wanted, yielded]) (.string (str FN1)) (fun _ _ _ h => h) (fun W hW => run_toStr (by rfl) Tryd.underlying23 Tryd.underlying5 Tryd.underlying9 _ Ag ng cg FN1 (by simp [Act.eval]) (hW.reads ⟨Ag, ng, cg, FN1⟩ (by simp))) ?_
        simp only [Act.put, List.getElem_toArray, List.getElem_cons_succ, List.getElem_cons_zero, List.setIfInBounds_toArray, List.set_cons_zero, List.set_cons_succ]
        refine p_take 19 (o := _) rfl (by kernel_rfl) (by kernel_rfl) (by kernel_rfl) (by simp [Region.wanted, yielded]) (.bool true) (fun _ _ _ h => h) (fun W hW => run_eqT (by rfl) FN1 FN1 (rfl) (by simp [Act.eval]) (by simp [Act.eval]) W) ?_
        simp only [Act.put, List.getElem_toArray, List.getElem_cons_succ, List.getElem_cons_zero, List.setIfInBounds_toArray, List.set_cons_zero, List.set_cons_succ]
        refine p_take 20 (o := _) rfl (by kernel_rfl) (by kernel_rfl) (by kernel_rfl) (wanted_plain rfl) (.bool true) (fun _ _ _ h => h) (fun W hW => run_pick (b := true) (by rfl) (by simp [Act.eval]) (by simp [Act.eval]) W) ?_
        simp only [Act.put, List.getElem_toArray, List.getElem_cons_succ, List.getElem_cons_zero, List.setIfInBounds_toArray, List.set_cons_zero, List.set_cons_succ]
        refine p_take 21 (o := _) rfl (by kernel_rfl) (by kernel_rfl) (by kernel_rfl) (wanted_plain rfl) (.bool true) (fun _ _ _ h => h) (fun W hW => run_assign (by rfl) (by simp [Act.eval]) W) ?_
        simp only [Act.put, List.getElem_toArray, List.getElem_cons_succ, List.getElem_cons_zero, List.setIfInBounds_toArray, List.set_cons_zero, List.set_cons_succ]
        refine p_done (by kernel_rfl) (fun W hW => ?_) _
        go_wp2
        go_meet
        exact ⟨rfl, hW.old⟩
      · refine op_do (o := _) rfl (by simp [Region.wanted, yielded]) (.slice (some ⟨W.heap.size, 0, none⟩) 1 1) (W.alloc (.cells #[.slice A3 m3 c3] 23)) (by go_simp) ?_
        have hE : Below W.heap.size W (W.alloc (.cells #[.slice A3 m3 c3] 23)) := (Below.refl _ _).alloc (Nat.le_refl _) _
        have hp := parts_one (c := c3) (hW.reads0 r3) (show m3 ≤ 140737488355000 by omega)
        obtain ⟨gp, Hgp⟩ : ∃ x, Hd (W.heap.size = x) := ⟨_, ⟨rfl⟩⟩
        rw [Hgp.out] at hp ⊢
        refine Next.mk (Held w6 [⟨Au, nu, cu, NX⟩] [(gp, [⟨A3, m3, c3, sm⟩])]) (fun _ => True) (fun _ h => h.tailP) ((hW.below hE).consP hp) trivial ?_
        clear hp hE hW
        simp only [Act.put, List.getElem_toArray, List.getElem_cons_succ, List.getElem_cons_zero, List.setIfInBounds_toArray, List.set_cons_zero, List.set_cons_succ]
        refine p_one 11 (by kernel_rfl) (fun W hW _ => ?_)
        refine op_call (o := _) rfl (by simp [Region.wanted, yielded]) 24 _ _ rfl #[.int .i64 h, .slice A1 n1 c1, .slice A3 m3 c3] (by simp [Act.eval]) (enter_finished _) ?_
        refine (finished_any h A1 n1 c1 sec A3 m3 c3 sm W (hW.reads0 r1) (by omega) (hW.reads0 r3) (by omega) (hW.tabs htb)).mono ?_
        rintro e W' ⟨v, rfl, own, hE⟩
        rw [HFN.out] at own
        obtain ⟨Af, cf, e1⟩ := own.slice
        obtain ⟨nf, Hnf⟩ : ∃ x, Hd (List.length FN1 = x) := ⟨_, ⟨rfl⟩⟩
        rw [Hnf.out] at e1
        subst e1
        have hrd : ReadsB W' W'.heap.size Af nf FN1 := ⟨Hnf.out, own.reads_any.2.is⟩
        have hN : Held w6 (⟨Af, nf, cf, FN1⟩ :: [⟨Au, nu, cu, NX⟩]) [(gp, [⟨A3, m3, c3, sm⟩])] W' := (hW.below hE).cons hrd
        refine ⟨_, rfl, Next.mk (Held w6 (⟨Af, nf, cf, FN1⟩ :: [⟨Au, nu, cu, NX⟩]) [(gp, [⟨A3, m3, c3, sm⟩])]) (fun _ => True) (fun _ h => h.tail) hN trivial ?_⟩
        clear hN hrd own hE hW
        simp only [Act.put, List.getElem_toArray, List.getElem_cons_succ, List.getElem_cons_zero, List.setIfInBounds_toArray, List.set_cons_zero, List.set_cons_succ]
        refine p_take 12 (o := _) rfl (by kernel_rfl) (by kernel_rfl) (by kernel_rfl) (by simp [Region.wanted, yielded]) (.string (str FN1)) (fun _ _ _ h => h) (fun W hW => run_toStr (by rfl) Tryd.underlying23 Tryd.underlying5 Tryd.underlying9 _ Af nf cf FN1 (by simp [Act.eval]) (hW.reads ⟨Af, nf, cf, FN1⟩ (by simp))) ?_
        simp only [Act.put, List.getElem_toArray, List.getElem_cons_succ, List.getElem_cons_zero, List.setIfInBounds_toArray, List.set_cons_zero, List.set_cons_succ]
        refine p_one 17 (by kernel_rfl) (fun W hW _ => ?_)
        refine op_call (o := _) rfl (by simp [Region.wanted, yielded]) 25 _ _ rfl #[.int .i64 h, .slice A14 n14 c14, .slice (some ⟨gp, 0, none⟩) 1 1] (by simp [Act.eval]) (enter_macof _) ?_
        refine (macOf_any h A14 n14 c14 KY (some ⟨gp, 0, none⟩) 1 1 [⟨A3, m3, c3, sm⟩] W (hW.reads0 r14) (by omega) (hW.parts (gp, [⟨A3, m3, c3, sm⟩]) (by simp)) (by omega) (hW.tabs htb)).mono ?_
        rintro e W' ⟨v, rfl, own, hE⟩
        rw [joined_one, HFN2.out] at own
        obtain ⟨Ag, cg, e1⟩ := own.slice
        obtain ⟨ng, Hng⟩ : ∃ x, Hd (List.length FN1 = x) := ⟨_, ⟨rfl⟩⟩
        rw [Hng.out] at e1
        subst e1
        have hrd : ReadsB W' W'.heap.size Ag ng FN1 := ⟨Hng.out, own.reads_any.2.is⟩
        have hN : Held w6 (⟨Ag, ng, cg, FN1⟩ :: [⟨Af, nf, cf, FN1⟩, ⟨Au, nu, cu, NX⟩]) [(gp, [⟨A3, m3, c3, sm⟩])] W' := (hW.below hE).cons hrd
        refine ⟨_, rfl, Next.mk (Held w6 (⟨Ag, ng, cg, FN1⟩ :: [⟨Af, nf, cf, FN1⟩, ⟨Au, nu, cu, NX⟩]) [(gp, [⟨A3, m3, c3, sm⟩])]) (fun _ => True) (fun _ h => h.tail) hN trivial ?_⟩
        clear hN hrd own hE hW
        simp only [Act.put, List.getElem_toArray, List.getElem_cons_succ, List.getElem_cons_zero, List.setIfInBounds_toArray, List.set_cons_zero, List.set_cons_succ]
        refine p_take 18 (o := _) rfl (by kernel_rfl) (by kernel_rfl) (by kernel_rfl) (by simp [Region.wanted, yielded]) (.string (str FN1)) (fun _ _ _ h => h) (fun W hW => run_toStr (by rfl) Tryd.underlying23 Tryd.underlying5 Tryd.underlying9 _ Ag ng cg FN1 (by simp [Act.eval]) (hW.reads ⟨Ag, ng, cg, FN1⟩ (by simp))) ?_
        simp only [Act.put, List.getElem_toArray, List.getElem_cons_succ, List.getElem_cons_zero, List.setIfInBounds_toArray, List.set_cons_zero, List.set_cons_succ]
        refine p_take 19 (o := _) rfl (by kernel_rfl) (by kernel_rfl) (by kernel_rfl) (by simp [Region.wanted, yielded]) (.bool true) (fun _ _ _ h => h) (fun W hW => run_eqT (by rfl) FN1 FN1 (rfl) (by simp [Act.eval]) (by simp [Act.eval]) W) ?_
        simp only [Act.put, List.getElem_toArray, List.getElem_cons_succ, List.getElem_cons_zero, List.setIfInBounds_toArray, List.set_cons_zero, List.set_cons_succ]
        refine p_take 20 (o := _) rfl (by kernel_rfl) (by kernel_rfl) (by kernel_rfl) (wanted_plain rfl) (.bool true) (fun _ _ _ h => h) (fun W hW => run_pick (b := true) (by rfl) (by simp [Act.eval]) (by simp [Act.eval]) W) ?_
        simp only [Act.put, List.getElem_toArray, List.getElem_cons_succ, List.getElem_cons_zero, List.setIfInBounds_toArray, List.set_cons_zero, List.set_cons_succ]
        refine p_take 21 (o := _) rfl (by kernel_rfl) (by kernel_rfl) (by kernel_rfl) (wanted_plain rfl) (.bool true) (fun _ _ _ h => h) (fun W hW => run_assign (by rfl) (by simp [Act.eval]) W) ?_
        simp only [Act.put, List.getElem_toArray, List.getElem_cons_succ, List.getElem_cons_zero, List.setIfInBounds_toArray, List.set_cons_zero, List.set_cons_succ]
        refine p_done (by kernel_rfl) (fun W hW => ?_) _
        go_wp2
        go_meet
        exact ⟨rfl, hW.old⟩
    case rest =>
    obtain ⟨rfl, hBx⟩ := hcut
    go_upto_region 12 with fail
    go_cut [18] (fun s18 wx => s18 = .bool true ∧ Below w6.heap.size w6 wx)
    case first =>
      refine p_start (Held w6 [] []) (by kernel_rfl) (Held.nil (hBx.drew)) ?_
      refine p_take 0 (o := _) rfl (by kernel_rfl) (by kernel_rfl) (by kernel_rfl) (wanted_plain rfl) (.int .i64 h) (fun _ _ _ h => h) (fun W hW => run_move (by rfl) (by simp [Act.eval]) W) ?_
      simp only [Act.put, List.getElem_toArray, List.getElem_cons_succ, List.getElem_cons_zero, List.setIfInBounds_toArray, List.set_cons_zero, List.set_cons_succ]
      refine p_take 1 (o := _) rfl (by kernel_rfl) (by kernel_rfl) (by kernel_rfl) (wanted_plain rfl) (.slice A1 n1 c1) (fun _ _ _ h => h) (fun W hW => run_move (by rfl) (by simp [Act.eval]) W) ?_
      simp only [Act.put, List.getElem_toArray, List.getElem_cons_succ, List.getElem_cons_zero, List.setIfInBounds_toArray, List.set_cons_zero, List.set_cons_succ]
      refine p_take 2 (o := _) rfl (by kernel_rfl) (by kernel_rfl) (by kernel_rfl) (wanted_plain rfl) (.slice A2 n2 c2) (fun _ _ _ h => h) (fun W hW => run_move (by rfl) (by simp [Act.eval]) W) ?_
      simp only [Act.put, List.getElem_toArray, List.getElem_cons_succ, List.getElem_cons_zero, List.setIfInBounds_toArray, List.set_cons_zero, List.set_cons_succ]
      refine p_take 5 (o := _) rfl (by kernel_rfl) (by kernel_rfl) (by kernel_rfl) (wanted_plain rfl) (.int .i64 h) (fun _ _ _ h => h) (fun W hW => run_move (by rfl) (by simp [Act.eval]) W) ?_
      simp only [Act.put, List.getElem_toArray, List.getElem_cons_succ, List.getElem_cons_zero, List.setIfInBounds_toArray, List.set_cons_zero, List.set_cons_succ]
      refine p_take 6 (o := _) rfl (by kernel_rfl) (by kernel_rfl) (by kernel_rfl) (wanted_plain rfl) (.slice A16 n16 c16) (fun _ _ _ h => h) (fun W hW => run_move (by rfl) (by simp [Act.eval]) W) ?_
      simp only [Act.put, List.getElem_toArray, List.getElem_cons_succ, List.getElem_cons_zero, List.setIfInBounds_toArray, List.set_cons_zero, List.set_cons_succ]
      refine p_take 7 (o := _) rfl (by kernel_rfl) (by kernel_rfl) (by kernel_rfl) (wanted_plain rfl) (.slice A2 n2 c2) (fun _ _ _ h => h) (fun W hW => run_move (by rfl) (by simp [Act.eval]) W) ?_
      simp only [Act.put, List.getElem_toArray, List.getElem_cons_succ, List.getElem_cons_zero, List.setIfInBounds_toArray, List.set_cons_zero, List.set_cons_succ]
      refine p_one 3 (by kernel_rfl) (fun W hW _ => ?_)
      refine op_call (o := _) rfl (wanted_plain rfl) 26 _ _ rfl #[.int .i64 h, .slice A1 n1 c1, .slice A2 n2 c2] (by simp [Act.eval]) (enter_handshake _) ?_
      refine (handshake_any h A1 n1 c1 sec A2 n2 c2 sh W (hW.reads0 r1) (by omega) (hW.reads0 r2) (by omega) (hW.tabs htb)).mono ?_
      rintro e W' ⟨v, rfl, own, hE⟩
      rw [HHS.out] at own
      obtain ⟨Ah, ch, e1⟩ := own.slice
      obtain ⟨nh, Hnh⟩ : ∃ x, Hd (List.length HS1 = x) := ⟨_, ⟨rfl⟩⟩
      rw [Hnh.out] at e1
      subst e1
      have hrd : ReadsB W' W'.heap.size Ah nh HS1 := ⟨Hnh.out, own.reads_any.2.is⟩
      have hN : Held w6 (⟨Ah, nh, ch, HS1⟩ :: []) [] W' := (hW.below hE).cons hrd
      refine ⟨_, rfl, Next.mk (Held w6 (⟨Ah, nh, ch, HS1⟩ :: []) []) (fun _ => True) (fun _ h => h.tail) hN trivial ?_⟩
      clear hN hrd own hE hW
      simp only [Act.put, List.getElem_toArray, List.getElem_cons_succ, List.getElem_cons_zero, List.setIfInBounds_toArray, List.set_cons_zero, List.set_cons_succ]
      refine p_take 4 (o := _) rfl (by kernel_rfl) (by kernel_rfl) (by kernel_rfl) (wanted_plain rfl) (.string (str HS1)) (fun _ _ _ h => h) (fun W hW => run_toStr (by rfl) Tryd.underlying23 Tryd.underlying5 Tryd.underlying9 _ Ah nh ch HS1 (by simp [Act.eval]) (hW.reads ⟨Ah, nh, ch, HS1⟩ (by simp))) ?_
      simp only [Act.put, List.getElem_toArray, List.getElem_cons_succ, List.getElem_cons_zero, List.setIfInBounds_toArray, List.set_cons_zero, List.set_cons_succ]
      refine p_one 8 (by kernel_rfl) (fun W hW _ => ?_)
      refine op_call (o := _) rfl (wanted_plain rfl) 27 _ _ rfl #[.int .i64 h, .slice A16 n16 c16, .slice A2 n2 c2] (by simp [Act.eval]) (enter_extract _) ?_
      refine (extract_any h A16 n16 c16 SA A2 n2 c2 sh W (hW.reads0 r16) (by omega) (hW.reads0 r2) (by omega) (hW.tabs htb)).mono ?_
      rintro e W' ⟨v, rfl, own, hE⟩
      rw [HHS2.out] at own
      obtain ⟨Ax, cx, e1⟩ := own.slice
      obtain ⟨nx, Hnx⟩ : ∃ x, Hd (List.length HS1 = x) := ⟨_, ⟨rfl⟩⟩
      rw [Hnx.out] at e1
      subst e1
      have hrd : ReadsB W' W'.heap.size Ax nx HS1 := ⟨Hnx.out, own.reads_any.2.is⟩
      have hN : Held w6 (⟨Ax, nx, cx, HS1⟩ :: [⟨Ah, nh, ch, HS1⟩]) [] W' := (hW.below hE).cons hrd
      refine ⟨_, rfl, Next.mk (Held w6 (⟨Ax, nx, cx, HS1⟩ :: [⟨Ah, nh, ch, HS1⟩]) []) (fun _ => True) (fun _ h => h.tail) hN trivial ?_⟩
      clear hN hrd own hE hW
      simp only [Act.put, List.getElem_toArray, List.getElem_cons_succ, List.getElem_cons_zero, List.setIfInBounds_toArray, List.set_cons_zero, List.set_cons_succ]
      refine p_take 9 (o := _) rfl (by kernel_rfl) (by kernel_rfl) (by kernel_rfl) (wanted_plain rfl) (.string (str HS1)) (fun _ _ _ h => h) (fun W hW => run_toStr (by rfl) Tryd.underlying23 Tryd.underlying5 Tryd.underlying9 _ Ax nx cx HS1 (by simp [Act.eval]) (hW.reads ⟨Ax, nx, cx, HS1⟩ (by simp))) ?_
      simp only [Act.put, List.getElem_toArray, List.getElem_cons_succ, List.getElem_cons_zero, List.setIfInBounds_toArray, List.set_cons_zero, List.set_cons_succ]
      refine p_take 10 (o := _) rfl (by kernel_rfl) (by kernel_rfl) (by kernel_rfl) (wanted_plain rfl) (.bool true) (fun _ _ _ h => h) (fun W hW => run_eqT (by rfl) HS1 HS1 (rfl) (by simp [Act.eval]) (by simp [Act.eval]) W) ?_
      simp only [Act.put, List.getElem_toArray, List.getElem_cons_succ, List.getElem_cons_zero, List.setIfInBounds_toArray, List.set_cons_zero, List.set_cons_succ]
      refine p_take 11 (o := _) rfl (by kernel_rfl) (by kernel_rfl) (by kernel_rfl) (wanted_plain rfl) (.bool true) (fun _ _ _ h => h) (fun W hW => run_move (by rfl) (by simp [Act.eval]) W) ?_
      simp only [Act.put, List.getElem_toArray, List.getElem_cons_succ, List.getElem_cons_zero, List.setIfInBounds_toArray, List.set_cons_zero, List.set_cons_succ]
      refine p_take 12 (o := _) rfl (by kernel_rfl) (by kernel_rfl) (by kernel_rfl) (by simp [Region.wanted, yielded]) (.int .i64 h) (fun _ _ _ h => h) (fun W hW => run_move (by rfl) (by simp [Act.eval]) W) ?_
      simp only [Act.put, List.getElem_toArray, List.getElem_cons_succ, List.getElem_cons_zero, List.setIfInBounds_toArray, List.set_cons_zero, List.set_cons_succ]
      refine p_take 13 (o := _) rfl (by kernel_rfl) (by kernel_rfl) (by kernel_rfl) (by simp [Region.wanted, yielded]) (.slice A1 n1 c1) (fun _ _ _ h => h) (fun W hW => run_move (by rfl) (by simp [Act.eval]) W) ?_
      simp only [Act.put, List.getElem_toArray, List.getElem_cons_succ, List.getElem_cons_zero, List.setIfInBounds_toArray, List.set_cons_zero, List.set_cons_succ]
      refine p_take 16 (o := _) rfl (by kernel_rfl) (by kernel_rfl) (by kernel_rfl) (by simp [Region.wanted, yielded]) (.int .i64 h) (fun _ _ _ h => h) (fun W hW => run_move (by rfl) (by simp [Act.eval]) W) ?_
      simp only [Act.put, List.getElem_toArray, List.getElem_cons_succ, List.getElem_cons_zero, List.setIfInBounds_toArray, List.set_cons_zero, List.set_cons_succ]
      refine p_take 17 (o := _) rfl (by kernel_rfl) (by kernel_rfl) (by kernel_rfl) (by simp [Region.wanted, yielded]) (.slice A16 n16 c16) (fun _ _ _ h => h) (fun W hW => run_move (by rfl) (by simp [Act.eval]) W) ?_
      simp only [Act.put, List.getElem_toArray, List.getElem_cons_succ, List.getElem_cons_zero, List.setIfInBounds_toArray, List.set_cons_zero, List.set_cons_succ]
      refine p_take 18 (o := _) rfl (by kernel_rfl) (by kernel_rfl) (by kernel_rfl) (by simp [Region.wanted, yielded]) (.slice (some ⟨gz, 0, none⟩) S S) (fun _ _ _ h => h) (fun W hW => run_move (by rfl) (by simp [Act.eval]) W) ?_
      simp only [Act.put, List.getElem_toArray, List.getElem_cons_succ, List.getElem_cons_zero, List.setIfInBounds_toArray, List.set_cons_zero, List.set_cons_succ]
      refine p_one 14 (by kernel_rfl) (fun W hW _ => ?_)
      refine op_call (o := _) rfl (by simp [Region.wanted, yielded]) 28 _ _ rfl #[.int .i64 h, .slice A1 n1 c1] (by simp [Act.eval]) (enter_master _) ?_
      refine (master_any h A1 n1 c1 sec W (hW.reads0 r1) (by omega) (hW.tabs htb)).mono ?_
      rintro e W' ⟨v, rfl, own, hE⟩
      rw [HMS.out] at own
      obtain ⟨Am, cm, e1⟩ := own.slice
      obtain ⟨nm, Hnm⟩ : ∃ x, Hd (List.length MS1 = x) := ⟨_, ⟨rfl⟩⟩
      rw [Hnm.out] at e1
      subst e1
      have hrd : ReadsB W' W'.heap.size Am nm MS1 := ⟨Hnm.out, own.reads_any.2.is⟩
      have hN : Held w6 (⟨Am, nm, cm, MS1⟩ :: [⟨Ax, nx, cx, HS1⟩, ⟨Ah, nh, ch, HS1⟩]) [] W' := (hW.below hE).cons hrd
      refine ⟨_, rfl, Next.mk (Held w6 (⟨Am, nm, cm, MS1⟩ :: [⟨Ax, nx, cx, HS1⟩, ⟨Ah, nh, ch, HS1⟩]) []) (fun _ => True) (fun _ h => h.tail) hN trivial ?_⟩
      clear hN hrd own hE hW
      simp only [Act.put, List.getElem_toArray, List.getElem_cons_succ, List.getElem_cons_zero, List.setIfInBounds_toArray, List.set_cons_zero, List.set_cons_succ]
      refine p_take 15 (o := _) rfl (by kernel_rfl) (by kernel_rfl) (by kernel_rfl) (by simp [Region.wanted, yielded]) (.string (str MS1)) (fun _ _ _ h => h) (fun W hW => run_toStr (by rfl) Tryd.underlying23 Tryd.underlying5 Tryd.underlying9 _ Am nm cm MS1 (by simp [Act.eval]) (hW.reads ⟨Am, nm, cm, MS1⟩ (by simp))) ?_
      simp only [Act.put, List.getElem_toArray, List.getElem_cons_succ, List.getElem_cons_zero, List.setIfInBounds_toArray, List.set_cons_zero, List.set_cons_succ]
      refine p_one 19 (by kernel_rfl) (fun W hW _ => ?_)
      refine op_call (o := _) rfl (by simp [Region.wanted, yielded]) 27 _ _ rfl #[.int .i64 h, .slice A16 n16 c16, .slice (some ⟨gz, 0, none⟩) S S] (by simp [Act.eval]) (enter_extract _) ?_
      refine (extract_any h A16 n16 c16 SA (some ⟨gz, 0, none⟩) S S ZZ W (hW.reads0 r16) (by omega) (hW.reads0 rz) (by omega) (hW.tabs htb)).mono ?_
      rintro e W' ⟨v, rfl, own, hE⟩
      rw [HMS2.out] at own
      obtain ⟨Ay, cy, e1⟩ := own.slice
      obtain ⟨ny, Hny⟩ : ∃ x, Hd (List.length MS1 = x) := ⟨_, ⟨rfl⟩⟩
      rw [Hny.out] at e1
      subst e1
      have hrd : ReadsB W' W'.heap.size Ay ny MS1 := ⟨Hny.out, own.reads_any.2.is⟩
      have hN : Held w6 (⟨Ay, ny, cy, MS1⟩ :: [⟨Am, nm, cm, MS1⟩, ⟨Ax, nx, cx, HS1⟩, ⟨Ah, nh, ch, HS1⟩]) [] W' := (hW.below hE).cons hrd
      refine ⟨_, rfl, Next.mk (Held w6 (⟨Ay, ny, cy, MS1⟩ :: [⟨Am, nm, cm, MS1⟩, ⟨Ax, nx, cx, HS1⟩, ⟨Ah, nh, ch, HS1⟩]) []) (fun _ => True) (fun _ h => h.tail) hN trivial ?_⟩
      clear hN hrd own hE hW
      simp only [Act.put, List.getElem_toArray, List.getElem_cons_succ, List.getElem_cons_zero, List.setIfInBounds_toArray, List.set_cons_zero, List.set_cons_succ]
      refine p_take 20 (o := _) rfl (by kernel_rfl) (by kernel_rfl) (by kernel_rfl) (by simp [Region.wanted, yielded]) (.string (str MS1)) (fun _ _ _ h => h) (fun W hW => run_toStr (by rfl) Tryd.underlying23 Tryd.underlying5 Tryd.underlying9 _ Ay ny cy MS1 (by simp [Act.eval]) (hW.reads ⟨Ay, ny, cy, MS1⟩ (by simp))) ?_
      simp only [Act.put, List.getElem_toArray, List.getElem_cons_succ, List.getElem_cons_zero, List.setIfInBounds_toArray, List.set_cons_zero, List.set_cons_succ]
      refine p_take 21 (o := _) rfl (by kernel_rfl) (by kernel_rfl) (by kernel_rfl) (by simp [Region.wanted, yielded]) (.bool true) (fun _ _ _ h => h) (fun W hW => run_eqT (by rfl) MS1 MS1 (rfl) (by simp [Act.eval]) (by simp [Act.eval]) W) ?_
      simp only [Act.put, List.getElem_toArray, List.getElem_cons_succ, List.getElem_cons_zero, List.setIfInBounds_toArray, List.set_cons_zero, List.set_cons_succ]
      refine p_take 22 (o := _) rfl (by kernel_rfl) (by kernel_rfl) (by kernel_rfl) (wanted_plain rfl) (.bool true) (fun _ _ _ h => h) (fun W hW => run_pick (b := true) (by rfl) (by simp [Act.eval]) (by simp [Act.eval]) W) ?_
      simp only [Act.put, List.getElem_toArray, List.getElem_cons_succ, List.getElem_cons_zero, List.setIfInBounds_toArray, List.set_cons_zero, List.set_cons_succ]
      refine p_take 23 (o := _) rfl (by kernel_rfl) (by kernel_rfl) (by kernel_rfl) (wanted_plain rfl) (.bool true) (fun _ _ _ h => h) (fun W hW => run_assign (by rfl) (by simp [Act.eval]) W) ?_
      simp only [Act.put, List.getElem_toArray, List.getElem_cons_succ, List.getElem_cons_zero, List.setIfInBounds_toArray, List.set_cons_zero, List.set_cons_succ]
      refine p_done (by kernel_rfl) (fun W hW => ?_) _
      go_wp2
      go_meet
      exact ⟨rfl, hW.old⟩
    case rest =>
    clear hBx
    obtain ⟨rfl, hBy⟩ := hcut
    go_upto_region 13 with fail
    go_cut [19] (fun s19 wx => s19 = .bool true ∧ Below w6.heap.size w6 wx)
    case first =>
      refine p_start (Held w6 [] []) (by kernel_rfl) (Held.nil (hBy.drew)) ?_
      refine p_take 0 (o := _) rfl (by kernel_rfl) (by kernel_rfl) (by kernel_rfl) (wanted_plain rfl) (.int .i64 h) (fun _ _ _ h => h) (fun W hW => run_move (by rfl) (by simp [Act.eval]) W) ?_
      simp only [Act.put, List.getElem_toArray, List.getElem_cons_succ, List.getElem_cons_zero, List.setIfInBounds_toArray, List.set_cons_zero, List.set_cons_succ]
      refine p_take 3 (o := _) rfl (by kernel_rfl) (by kernel_rfl) (by kernel_rfl) (wanted_plain rfl) (.int .i64 h) (fun _ _ _ h => h) (fun W hW => run_move (by rfl) (by simp [Act.eval]) W) ?_
      simp only [Act.put, List.getElem_toArray, List.getElem_cons_succ, List.getElem_cons_zero, List.setIfInBounds_toArray, List.set_cons_zero, List.set_cons_succ]
      refine p_take 4 (o := _) rfl (by kernel_rfl) (by kernel_rfl) (by kernel_rfl) (wanted_plain rfl) (.slice (some ⟨gz, 0, none⟩) S S) (fun _ _ _ h => h) (fun W hW => run_move (by rfl) (by simp [Act.eval]) W) ?_
      simp only [Act.put, List.getElem_toArray, List.getElem_cons_succ, List.getElem_cons_zero, List.setIfInBounds_toArray, List.set_cons_zero, List.set_cons_succ]
      refine p_one 1 (by kernel_rfl) (fun W hW _ => ?_)
      refine op_call (o := _) rfl (wanted_plain rfl) 22 _ _ rfl #[.int .i64 h, .slice none 0 0] (by simp [Act.eval]) (enter_early _) ?_
      refine (early_any h none 0 0 [] W ⟨rfl, Reads.none_⟩ (by omega) (hW.tabs htb)).mono ?_
      rintro e W' ⟨v, rfl, own, hE⟩
      rw [HEA.out] at own
      obtain ⟨Ae, ce, e1⟩ := own.slice
      obtain ⟨ne, Hne⟩ : ∃ x, Hd (List.length EA = x) := ⟨_, ⟨rfl⟩⟩
      rw [Hne.out] at e1
      subst e1
      have hrd : ReadsB W' W'.heap.size Ae ne EA := ⟨Hne.out, own.reads_any.2.is⟩
      have hN : Held w6 (⟨Ae, ne, ce, EA⟩ :: []) [] W' := (hW.below hE).cons hrd
      refine ⟨_, rfl, Next.mk (Held w6 (⟨Ae, ne, ce, EA⟩ :: []) []) (fun _ => True) (fun _ h => h.tail) hN trivial ?_⟩
      clear hN hrd own hE hW
      simp only [Act.put, List.getElem_toArray, List.getElem_cons_succ, List.getElem_cons_zero, List.setIfInBounds_toArray, List.set_cons_zero, List.set_cons_succ]
      refine p_take 2 (o := _) rfl (by kernel_rfl) (by kernel_rfl) (by kernel_rfl) (wanted_plain rfl) (.string (str EA)) (fun _ _ _ h => h) (fun W hW => run_toStr (by rfl) Tryd.underlying23 Tryd.underlying5 Tryd.underlying9 _ Ae ne ce EA (by simp [Act.eval]) (hW.reads ⟨Ae, ne, ce, EA⟩ (by simp))) ?_
      simp only [Act.put, List.getElem_toArray, List.getElem_cons_succ, List.getElem_cons_zero, List.setIfInBounds_toArray, List.set_cons_zero, List.set_cons_succ]
      refine p_one 5 (by kernel_rfl) (fun W hW _ => ?_)
      refine op_call (o := _) rfl (wanted_plain rfl) 22 _ _ rfl #[.int .i64 h, .slice (some ⟨gz, 0, none⟩) S S] (by simp [Act.eval]) (enter_early _) ?_
      refine (early_any h (some ⟨gz, 0, none⟩) S S ZZ W (hW.reads0 rz) (by omega) (hW.tabs htb)).mono ?_
      rintro e W' ⟨v, rfl, own, hE⟩
      rw [HEA2.out] at own
      obtain ⟨Ai, ci, e1⟩ := own.slice
      obtain ⟨ni, Hni⟩ : ∃ x, Hd (List.length EA = x) := ⟨_, ⟨rfl⟩⟩
      rw [Hni.out] at e1
      subst e1
      have hrd : ReadsB W' W'.heap.size Ai ni EA := ⟨Hni.out, own.reads_any.2.is⟩
      have hN : Held w6 (⟨Ai, ni, ci, EA⟩ :: [⟨Ae, ne, ce, EA⟩]) [] W' := (hW.below hE).cons hrd
      refine ⟨_, rfl, Next.mk (Held w6 (⟨Ai, ni, ci, EA⟩ :: [⟨Ae, ne, ce, EA⟩]) []) (fun _ => True) (fun _ h => h.tail) hN trivial ?_⟩
      clear hN hrd own hE hW
      simp only [Act.put, List.getElem_toArray, List.getElem_cons_succ, List.getElem_cons_zero, List.setIfInBounds_toArray, List.set_cons_zero, List.set_cons_succ]
      refine p_take 6 (o := _) rfl (by kernel_rfl) (by kernel_rfl) (by kernel_rfl) (wanted_plain rfl) (.string (str EA)) (fun _ _ _ h => h) (fun W hW => run_toStr (by rfl) Tryd.underlying23 Tryd.underlying5 Tryd.underlying9 _ Ai ni ci EA (by simp [Act.eval]) (hW.reads ⟨Ai, ni, ci, EA⟩ (by simp))) ?_
      simp only [Act.put, List.getElem_toArray, List.getElem_cons_succ, List.getElem_cons_zero, List.setIfInBounds_toArray, List.set_cons_zero, List.set_cons_succ]
      refine p_take 7 (o := _) rfl (by kernel_rfl) (by kernel_rfl) (by kernel_rfl) (wanted_plain rfl) (.bool true) (fun _ _ _ h => h) (fun W hW => run_eqT (by rfl) EA EA (rfl) (by simp [Act.eval]) (by simp [Act.eval]) W) ?_
      simp only [Act.put, List.getElem_toArray, List.getElem_cons_succ, List.getElem_cons_zero, List.setIfInBounds_toArray, List.set_cons_zero, List.set_cons_succ]
      refine p_take 8 (o := _) rfl (by kernel_rfl) (by kernel_rfl) (by kernel_rfl) (wanted_plain rfl) (.bool true) (fun _ _ _ h => h) (fun W hW => run_move (by rfl) (by simp [Act.eval]) W) ?_
      simp only [Act.put, List.getElem_toArray, List.getElem_cons_succ, List.getElem_cons_zero, List.setIfInBounds_toArray, List.set_cons_zero, List.set_cons_succ]
      refine p_take 9 (o := _) rfl (by kernel_rfl) (by kernel_rfl) (by kernel_rfl) (by simp [Region.wanted, yielded]) (.int .i64 h) (fun _ _ _ h => h) (fun W hW => run_move (by rfl) (by simp [Act.eval]) W) ?_
      simp only [Act.put, List.getElem_toArray, List.getElem_cons_succ, List.getElem_cons_zero, List.setIfInBounds_toArray, List.set_cons_zero, List.set_cons_succ]
      refine p_take 10 (o := _) rfl (by kernel_rfl) (by kernel_rfl) (by kernel_rfl) (by simp [Region.wanted, yielded]) (.slice A2 n2 c2) (fun _ _ _ h => h) (fun W hW => run_move (by rfl) (by simp [Act.eval]) W) ?_
      simp only [Act.put, List.getElem_toArray, List.getElem_cons_succ, List.getElem_cons_zero, List.setIfInBounds_toArray, List.set_cons_zero, List.set_cons_succ]
      refine p_take 13 (o := _) rfl (by kernel_rfl) (by kernel_rfl) (by kernel_rfl) (by simp [Region.wanted, yielded]) (.int .i64 h) (fun _ _ _ h => h) (fun W hW => run_move (by rfl) (by simp [Act.eval]) W) ?_
      simp only [Act.put, List.getElem_toArray, List.getElem_cons_succ, List.getElem_cons_zero, List.setIfInBounds_toArray, List.set_cons_zero, List.set_cons_succ]
      refine p_take 15 (o := _) rfl (by kernel_rfl) (by kernel_rfl) (by kernel_rfl) (by simp [Region.wanted, yielded]) (.slice A2 n2 c2) (fun _ _ _ h => h) (fun W hW => run_move (by rfl) (by simp [Act.eval]) W) ?_
      simp only [Act.put, List.getElem_toArray, List.getElem_cons_succ, List.getElem_cons_zero, List.setIfInBounds_toArray, List.set_cons_zero, List.set_cons_succ]
      refine p_take 17 (o := _) rfl (by kernel_rfl) (by kernel_rfl) (by kernel_rfl) (by simp [Region.wanted, yielded]) (.slice (some ⟨gz, 0, none⟩) S S) (fun _ _ _ h => h) (fun W hW => run_move (by rfl) (by simp [Act.eval]) W) ?_
      simp only [Act.put, List.getElem_toArray, List.getElem_cons_succ, List.getElem_cons_zero, List.setIfInBounds_toArray, List.set_cons_zero, List.set_cons_succ]
      refine p_take 18 (o := _) rfl (by kernel_rfl) (by kernel_rfl) (by kernel_rfl) (by simp [Region.wanted, yielded]) (.int .i64 (S : Int)) (fun _ _ _ h => h) (fun W hW => run_move (by rfl) (by simp [Act.eval]) W) ?_
      simp only [Act.put, List.getElem_toArray, List.getElem_cons_succ, List.getElem_cons_zero, List.setIfInBounds_toArray, List.set_cons_zero, List.set_cons_succ]
      refine p_take 19 (o := _) rfl (by kernel_rfl) (by kernel_rfl) (by kernel_rfl) (by simp [Region.wanted, yielded]) (.slice A2 n2 c2) (fun _ _ _ h => h) (fun W hW => run_move (by rfl) (by simp [Act.eval]) W) ?_
      simp only [Act.put, List.getElem_toArray, List.getElem_cons_succ, List.getElem_cons_zero, List.setIfInBounds_toArray, List.set_cons_zero, List.set_cons_succ]
      refine p_take 20 (o := _) rfl (by kernel_rfl) (by kernel_rfl) (by kernel_rfl) (by simp [Region.wanted, yielded]) (.int .i64 (n2 : Int)) (fun _ _ _ h => h) (fun W hW => by go_simp) ?_
      simp only [Act.put, List.getElem_toArray, List.getElem_cons_succ, List.getElem_cons_zero, List.setIfInBounds_toArray, List.set_cons_zero, List.set_cons_succ]
      refine p_take 21 (o := _) rfl (by kernel_rfl) (by kernel_rfl) (by kernel_rfl) (by simp [Region.wanted, yielded]) (.int .i64 (q1 : Int)) (fun _ _ _ h => h) (fun W hW => by go_simp) ?_
      simp only [Act.put, List.getElem_toArray, List.getElem_cons_succ, List.getElem_cons_zero, List.setIfInBounds_toArray, List.set_cons_zero, List.set_cons_succ]
      refine p_take 22 (o := _) rfl (by kernel_rfl) (by kernel_rfl) (by kernel_rfl) (by simp [Region.wanted, yielded]) (.int .i64 (q2 : Int)) (fun _ _ _ h => h) (fun W hW => by go_simp) ?_
      simp only [Act.put, List.getElem_toArray, List.getElem_cons_succ, List.getElem_cons_zero, List.setIfInBounds_toArray, List.set_cons_zero, List.set_cons_succ]
      refine p_take 23 (o := _) rfl (by kernel_rfl) (by kernel_rfl) (by kernel_rfl) (by simp [Region.wanted, yielded]) (.int .i64 (M : Int)) (fun _ _ _ h => h) (fun W hW => by go_simp) ?_
      simp only [Act.put, List.getElem_toArray, List.getElem_cons_succ, List.getElem_cons_zero, List.setIfInBounds_toArray, List.set_cons_zero, List.set_cons_succ]
      refine p_take 24 (o := _) rfl (by kernel_rfl) (by kernel_rfl) (by kernel_rfl) (by simp [Region.wanted, yielded]) (.int .i64 (M : Int)) (fun _ _ _ h => h) (fun W hW => by go_simp; omega) ?_
      simp only [Act.put, List.getElem_toArray, List.getElem_cons_succ, List.getElem_cons_zero, List.setIfInBounds_toArray, List.set_cons_zero, List.set_cons_succ]
      refine p_take 25 (o := _) rfl (by kernel_rfl) (by kernel_rfl) (by kernel_rfl) (by simp [Region.wanted, yielded]) (.slice (some ⟨gz, 0, none⟩) M S) (fun _ _ _ h => h) (fun W hW => run_slice_to (by rfl) Tryd.underlying23 u8_one3 (some ⟨gz, 0, none⟩) S S M (by simp [Act.eval]) (by simp [Act.eval]) (by omega)) ?_
      simp only [Act.put, List.getElem_toArray, List.getElem_cons_succ, List.getElem_cons_zero, List.setIfInBounds_toArray, List.set_cons_zero, List.set_cons_succ]
      refine p_two 11 14 (by kernel_rfl) (fun W hW hX => ?_) (fun W hW hX => ?_)
      · refine op_call (o := _) rfl (by simp [Region.wanted, yielded]) 22 _ _ rfl #[.int .i64 h, .slice A2 n2 c2] (by simp [Act.eval]) (enter_early _) ?_
        refine (early_any h A2 n2 c2 sh W (hW.reads0 r2) (by omega) (hW.tabs htb)).mono ?_
        rintro e W' ⟨v, rfl, own, hE⟩
        rw [HEB.out] at own
        obtain ⟨Aj, cj, e1⟩ := own.slice
        obtain ⟨nj, Hnj⟩ : ∃ x, Hd (List.length EB = x) := ⟨_, ⟨rfl⟩⟩
        rw [Hnj.out] at e1
        subst e1
        have hrd : ReadsB W' W'.heap.size Aj nj EB := ⟨Hnj.out, own.reads_any.2.is⟩
        have hN : Held w6 (⟨Aj, nj, cj, EB⟩ :: [⟨Ai, ni, ci, EA⟩, ⟨Ae, ne, ce, EA⟩]) [] W' := (hW.below hE).cons hrd
        refine ⟨_, rfl, Next.mk (Held w6 (⟨Aj, nj, cj, EB⟩ :: [⟨Ai, ni, ci, EA⟩, ⟨Ae, ne, ce, EA⟩]) []) (fun _ => True) (fun _ h => h.tail) hN trivial ?_⟩
        clear hN hrd own hE hW
        simp only [Act.put, List.getElem_toArray, List.getElem_cons_succ, List.getElem_cons_zero, List.setIfInBounds_toArray, List.set_cons_zero, List.set_cons_succ]
        refine p_take 12 (o := _) rfl (by kernel_rfl) (by kernel_rfl) (by kernel_rfl) (by simp [Region.wanted, yielded]) (.string (str EB)) (fun _ _ _ h => h) (fun W hW => run_toStr (by rfl) Tryd.underlying23 Tryd.underlying5 Tryd.underlying9 _ Aj nj cj EB (by simp [Act.eval]) (hW.reads ⟨Aj, nj, cj, EB⟩ (by simp))) ?_
        simp only [Act.put, List.getElem_toArray, List.getElem_cons_succ, List.getElem_cons_zero, List.setIfInBounds_toArray, List.set_cons_zero, List.set_cons_succ]
        refine p_one 14 (by kernel_rfl) (fun W hW hX => ?_)
        refine op_do (o := _) rfl (by simp [Region.wanted, yielded]) (.slice (some ⟨W.heap.size, 0, none⟩) 0 0) (W.alloc (.cells #[] 5)) (by go_simp) ?_
        have hM := Mine.new hW
        have hN := hM.held
        obtain ⟨v0, Hv0⟩ : ∃ x, Hd (Value.slice (some ⟨W.heap.size, 0, none⟩) 0 0 = x) := ⟨_, ⟨rfl⟩⟩
        rw [Hv0.out] at hM ⊢
        refine Next.mk (Held w6 [⟨Aj, nj, cj, EB⟩, ⟨Ai, ni, ci, EA⟩, ⟨Ae, ne, ce, EA⟩] []) (Mine w6 [⟨Aj, nj, cj, EB⟩, ⟨Ai, ni, ci, EA⟩, ⟨Ae, ne, ce, EA⟩] v0 []) (fun _ h => h) hN hM ?_
        clear hN hM hW
        simp only [Act.put, List.getElem_toArray, List.getElem_cons_succ, List.getElem_cons_zero, List.setIfInBounds_toArray, List.set_cons_zero, List.set_cons_succ]
        refine p_one 16 (by kernel_rfl) (fun W hW hX => ?_)
        obtain ⟨B, ho, hB1, hB2⟩ := hX.own
        refine op_appendB rfl (o := _) rfl (by simp [Region.wanted, yielded]) _ _ rfl B v0 [] (by simp [Act.eval]) ho W.heap.size A2 n2 c2 sh (by simp [Act.eval]) (hW.reads0 r2) (by rw [r2.len]; simp; omega) hB2 ?_
        intro v1 W' own gr at'
        rw [List.nil_append] at own
        have hM : Mine w6 [⟨Aj, nj, cj, EB⟩, ⟨Ai, ni, ci, EA⟩, ⟨Ae, ne, ce, EA⟩] v1 sh W' := hX.append ho hB1 hB2 gr at' own
        have hN := hM.held
        refine Next.mk (Held w6 [⟨Aj, nj, cj, EB⟩, ⟨Ai, ni, ci, EA⟩, ⟨Ae, ne, ce, EA⟩] []) (Mine w6 [⟨Aj, nj, cj, EB⟩, ⟨Ai, ni, ci, EA⟩, ⟨Ae, ne, ce, EA⟩] v1 sh) (fun _ h => h) hN hM ?_
        clear hN hM ho hX hW own gr at' hB1 hB2
        simp only [Act.put, List.getElem_toArray, List.getElem_cons_succ, List.getElem_cons_zero, List.setIfInBounds_toArray, List.set_cons_zero, List.set_cons_succ]
        refine p_one 26 (by kernel_rfl) (fun W hW hX => ?_)
        obtain ⟨B, ho, hB1, hB2⟩ := hX.own
        refine op_appendB rfl (o := _) rfl (by simp [Region.wanted, yielded]) _ _ rfl B v1 sh (by simp [Act.eval]) ho W.heap.size (some ⟨gz, 0, none⟩) M S ZM (by simp [Act.eval]) (hW.reads0 rm) (by rw [r2.len, rm.len]; omega) hB2 ?_
        intro v2 W' own gr at'
        rw [HXX.out] at own
        have hM : Mine w6 [⟨Aj, nj, cj, EB⟩, ⟨Ai, ni, ci, EA⟩, ⟨Ae, ne, ce, EA⟩] v2 XX W' := hX.append ho hB1 hB2 gr at' own
        obtain ⟨Ab, cb, eb⟩ := own.slice
        obtain ⟨nb, Hnb⟩ : ∃ x, Hd (List.length XX = x) := ⟨_, ⟨rfl⟩⟩
        rw [Hnb.out] at eb
        subst eb
        have hN : Held w6 (⟨Ab, nb, cb, XX⟩ :: [⟨Aj, nj, cj, EB⟩, ⟨Ai, ni, ci, EA⟩, ⟨Ae, ne, ce, EA⟩]) [] W' := hM.read
        refine Next.mk (Held w6 (⟨Ab, nb, cb, XX⟩ :: [⟨Aj, nj, cj, EB⟩, ⟨Ai, ni, ci, EA⟩, ⟨Ae, ne, ce, EA⟩]) []) (fun _ => True) (fun _ h => h.tail) hN trivial ?_
        clear hN hM ho hX hW own gr at' hB1 hB2
        simp only [Act.put, List.getElem_toArray, List.getElem_cons_succ, List.getElem_cons_zero, List.setIfInBounds_toArray, List.set_cons_zero, List.set_cons_succ]
        refine p_one 27 (by kernel_rfl) (fun W hW _ => ?_)
        refine op_call (o := _) rfl (by simp [Region.wanted, yielded]) 27 _ _ rfl #[.int .i64 h, .slice none 0 0, .slice Ab nb cb] (by simp [Act.eval]) (enter_extract _) ?_
        refine (extract_any h none 0 0 [] Ab nb cb XX W ⟨rfl, Reads.none_⟩ (by omega) (hW.reads ⟨Ab, nb, cb, XX⟩ (by simp)) (by have := Hnb.out; have := HXl.out; omega) (hW.tabs htb)).mono ?_
        rintro e W' ⟨v, rfl, own, hE⟩
        rw [HEB2.out] at own
        obtain ⟨Ak, ck, e1⟩ := own.slice
        obtain ⟨nk, Hnk⟩ : ∃ x, Hd (List.length EB = x) := ⟨_, ⟨rfl⟩⟩
        rw [Hnk.out] at e1
        subst e1
        have hrd : ReadsB W' W'.heap.size Ak nk EB := ⟨Hnk.out, own.reads_any.2.is⟩
        have hN : Held w6 (⟨Ak, nk, ck, EB⟩ :: [⟨Ab, nb, cb, XX⟩, ⟨Aj, nj, cj, EB⟩, ⟨Ai, ni, ci, EA⟩, ⟨Ae, ne, ce, EA⟩]) [] W' := (hW.below hE).cons hrd
        refine ⟨_, rfl, Next.mk (Held w6 (⟨Ak, nk, ck, EB⟩ :: [⟨Ab, nb, cb, XX⟩, ⟨Aj, nj, cj, EB⟩, ⟨Ai, ni, ci, EA⟩, ⟨Ae, ne, ce, EA⟩]) []) (fun _ => True) (fun _ h => h.tail) hN trivial ?_⟩
        clear hN hrd own hE hW
        simp only [Act.put, List.getElem_toArray, List.getElem_cons_succ, List.getElem_cons_zero, List.setIfInBounds_toArray, List.set_cons_zero, List.set_cons_succ]
        refine p_take 28 (o := _) rfl (by kernel_rfl) (by kernel_rfl) (by kernel_rfl) (by simp [Region.wanted, yielded]) (.string (str EB)) (fun _ _ _ h => h) (fun W hW => run_toStr (by rfl) Tryd.underlying23 Tryd.underlying5 Tryd.underlying9 _ Ak nk ck EB (by simp [Act.eval]) (hW.reads ⟨Ak, nk, ck, EB⟩ (by simp))) ?_
        simp only [Act.put, List.getElem_toArray, List.getElem_cons_succ, List.getElem_cons_zero, List.setIfInBounds_toArray, List.set_cons_zero, List.set_cons_succ]
        refine p_take 29 (o := _) rfl (by kernel_rfl) (by kernel_rfl) (by kernel_rfl) (by simp [Region.wanted, yielded]) (.bool true) (fun _ _ _ h => h) (fun W hW => run_eqT (by rfl) EB EB (rfl) (by simp [Act.eval]) (by simp [Act.eval]) W) ?_
        simp only [Act.put, List.getElem_toArray, List.getElem_cons_succ, List.getElem_cons_zero, List.setIfInBounds_toArray, List.set_cons_zero, List.set_cons_succ]
        refine p_take 30 (o := _) rfl (by kernel_rfl) (by kernel_rfl) (by kernel_rfl) (wanted_plain rfl) (.bool true) (fun _ _ _ h => h) (fun W hW => run_pick (b := true) (by rfl) (by simp [Act.eval]) (by simp [Act.eval]) W) ?_
        simp only [Act.put, List.getElem_toArray, List.getElem_cons_succ, List.getElem_cons_zero, List.setIfInBounds_toArray, List.set_cons_zero, List.set_cons_succ]
        refine p_take 31 (o := _) rfl (by kernel_rfl) (by kernel_rfl) (by kernel_rfl) (wanted_plain rfl) (.bool true) (fun _ _ _ h => h) (fun W hW => run_assign (by rfl) (by simp [Act.eval]) W) ?_
        simp only [Act.put, List.getElem_toArray, List.getElem_cons_succ, List.getElem_cons_zero, List.setIfInBounds_toArray, List.set_cons_zero, List.set_cons_succ]
        refine p_done (by kernel_rfl) (fun W hW => ?_) _
        go_wp2
        go_meet
        exact ⟨rfl, hW.old⟩
      · refine op_do (o := _) rfl (by simp [Region.wanted, yielded]) (.slice (some ⟨W.heap.size, 0, none⟩) 0 0) (W.alloc (.cells #[] 5)) (by go_simp) ?_
        have hM := Mine.new hW
        have hN := hM.held
        obtain ⟨v0, Hv0⟩ : ∃ x, Hd (Value.slice (some ⟨W.heap.size, 0, none⟩) 0 0 = x) := ⟨_, ⟨rfl⟩⟩
        rw [Hv0.out] at hM ⊢
        refine Next.mk (Held w6 [⟨Ai, ni, ci, EA⟩, ⟨Ae, ne, ce, EA⟩] []) (Mine w6 [⟨Ai, ni, ci, EA⟩, ⟨Ae, ne, ce, EA⟩] v0 []) (fun _ h => h) hN hM ?_
        clear hN hM hW
        simp only [Act.put, List.getElem_toArray, List.getElem_cons_succ, List.getElem_cons_zero, List.setIfInBounds_toArray, List.set_cons_zero, List.set_cons_succ]
        refine p_one 11 (by kernel_rfl) (fun W hW hX => ?_)
        refine op_call (o := _) rfl (by simp [Region.wanted, yielded]) 22 _ _ rfl #[.int .i64 h, .slice A2 n2 c2] (by simp [Act.eval]) (enter_early _) ?_
        refine (early_any h A2 n2 c2 sh W (hW.reads0 r2) (by omega) (hW.tabs htb)).mono ?_
        rintro e W' ⟨v, rfl, own, hE⟩
        rw [HEB.out] at own
        obtain ⟨Aj, cj, e1⟩ := own.slice
        obtain ⟨nj, Hnj⟩ : ∃ x, Hd (List.length EB = x) := ⟨_, ⟨rfl⟩⟩
        rw [Hnj.out] at e1
        subst e1
        have hrd : ReadsB W' W'.heap.size Aj nj EB := ⟨Hnj.out, own.reads_any.2.is⟩
        have hN : Held w6 (⟨Aj, nj, cj, EB⟩ :: [⟨Ai, ni, ci, EA⟩, ⟨Ae, ne, ce, EA⟩]) [] W' := (hW.below hE).cons hrd
        have hM : Mine w6 (⟨Aj, nj, cj, EB⟩ :: [⟨Ai, ni, ci, EA⟩, ⟨Ae, ne, ce, EA⟩]) v0 ([]) W' := hX.call (f := ⟨Aj, nj, cj, EB⟩) hE own hrd
        refine ⟨_, rfl, Next.mk (Held w6 (⟨Aj, nj, cj, EB⟩ :: [⟨Ai, ni, ci, EA⟩, ⟨Ae, ne, ce, EA⟩]) []) (Mine w6 (⟨Aj, nj, cj, EB⟩ :: [⟨Ai, ni, ci, EA⟩, ⟨Ae, ne, ce, EA⟩]) v0 ([])) (fun _ h => h.tail) hN hM ?_⟩
        clear hN hM hrd own hE hW hX
        simp only [Act.put, List.getElem_toArray, List.getElem_cons_succ, List.getElem_cons_zero, List.setIfInBounds_toArray, List.set_cons_zero, List.set_cons_succ]
        refine p_take 12 (o := _) rfl (by kernel_rfl) (by kernel_rfl) (by kernel_rfl) (by simp [Region.wanted, yielded]) (.string (str EB)) (fun _ _ _ h => h) (fun W hW => run_toStr (by rfl) Tryd.underlying23 Tryd.underlying5 Tryd.underlying9 _ Aj nj cj EB (by simp [Act.eval]) (hW.reads ⟨Aj, nj, cj, EB⟩ (by simp))) ?_
        simp only [Act.put, List.getElem_toArray, List.getElem_cons_succ, List.getElem_cons_zero, List.setIfInBounds_toArray, List.set_cons_zero, List.set_cons_succ]
        refine p_one 16 (by kernel_rfl) (fun W hW hX => ?_)
        obtain ⟨B, ho, hB1, hB2⟩ := hX.own
        refine op_appendB rfl (o := _) rfl (by simp [Region.wanted, yielded]) _ _ rfl B v0 [] (by simp [Act.eval]) ho W.heap.size A2 n2 c2 sh (by simp [Act.eval]) (hW.reads0 r2) (by rw [r2.len]; simp; omega) hB2 ?_
        intro v1 W' own gr at'
        rw [List.nil_append] at own
        have hM : Mine w6 [⟨Aj, nj, cj, EB⟩, ⟨Ai, ni, ci, EA⟩, ⟨Ae, ne, ce, EA⟩] v1 sh W' := hX.append ho hB1 hB2 gr at' own
        have hN := hM.held
        refine Next.mk (Held w6 [⟨Aj, nj, cj, EB⟩, ⟨Ai, ni, ci, EA⟩, ⟨Ae, ne, ce, EA⟩] []) (Mine w6 [⟨Aj, nj, cj, EB⟩, ⟨Ai, ni, ci, EA⟩, ⟨Ae, ne, ce, EA⟩] v1 sh) (fun _ h => h) hN hM ?_
        clear hN hM ho hX hW own gr at' hB1 hB2
        simp only [Act.put, List.getElem_toArray, List.getElem_cons_succ, List.getElem_cons_zero, List.setIfInBounds_toArray, List.set_cons_zero, List.set_cons_succ]
        refine p_one 26 (by kernel_rfl) (fun W hW hX => ?_)
        obtain ⟨B, ho, hB1, hB2⟩ := hX.own
        refine op_appendB rfl (o := _) rfl (by simp [Region.wanted, yielded]) _ _ rfl B v1 sh (by simp [Act.eval]) ho W.heap.size (some ⟨gz, 0, none⟩) M S ZM (by simp [Act.eval]) (hW.reads0 rm) (by rw [r2.len, rm.len]; omega) hB2 ?_
        intro v2 W' own gr at'
        rw [HXX.out] at own
        have hM : Mine w6 [⟨Aj, nj, cj, EB⟩, ⟨Ai, ni, ci, EA⟩, ⟨Ae, ne, ce, EA⟩] v2 XX W' := hX.append ho hB1 hB2 gr at' own
        obtain ⟨Ab, cb, eb⟩ := own.slice
        obtain ⟨nb, Hnb⟩ : ∃ x, Hd (List.length XX = x) := ⟨_, ⟨rfl⟩⟩
        rw [Hnb.out] at eb
        subst eb
        have hN : Held w6 (⟨Ab, nb, cb, XX⟩ :: [⟨Aj, nj, cj, EB⟩, ⟨Ai, ni, ci, EA⟩, ⟨Ae, ne, ce, EA⟩]) [] W' := hM.read
        refine Next.mk (Held w6 (⟨Ab, nb, cb, XX⟩ :: [⟨Aj, nj, cj, EB⟩, ⟨Ai, ni, ci, EA⟩, ⟨Ae, ne, ce, EA⟩]) []) (fun _ => True) (fun _ h => h.tail) hN trivial ?_
        clear hN hM ho hX hW own gr at' hB1 hB2
        simp only [Act.put, List.getElem_toArray, List.getElem_cons_succ, List.getElem_cons_zero, List.setIfInBounds_toArray, List.set_cons_zero, List.set_cons_succ]
        refine p_one 27 (by kernel_rfl) (fun W hW _ => ?_)
        refine op_call (o := _) rfl (by simp [Region.wanted, yielded]) 27 _ _ rfl #[.int .i64 h, .slice none 0 0, .slice Ab nb cb] (by simp [Act.eval]) (enter_extract _) ?_
        refine (extract_any h none 0 0 [] Ab nb cb XX W ⟨rfl, Reads.none_⟩ (by omega) (hW.reads ⟨Ab, nb, cb, XX⟩ (by simp)) (by have := Hnb.out; have := HXl.out; omega) (hW.tabs htb)).mono ?_
        rintro e W' ⟨v, rfl, own, hE⟩
        rw [HEB2.out] at own
        obtain ⟨Ak, ck, e1⟩ := own.slice
        obtain ⟨nk, Hnk⟩ : ∃ x, Hd (List.length EB = x) := ⟨_, ⟨rfl⟩⟩
        rw [Hnk.out] at e1
        subst e1
        have hrd : ReadsB W' W'.heap.size Ak nk EB := ⟨Hnk.out, own.reads_any.2.is⟩
        have hN : Held w6 (⟨Ak, nk, ck, EB⟩ :: [⟨Ab, nb, cb, XX⟩, ⟨Aj, nj, cj, EB⟩, ⟨Ai, ni, ci, EA⟩, ⟨Ae, ne, ce, EA⟩]) [] W' := (hW.below hE).cons hrd
        refine ⟨_, rfl, Next.mk (Held w6 (⟨Ak, nk, ck, EB⟩ :: [⟨Ab, nb, cb, XX⟩, ⟨Aj, nj, cj, EB⟩, ⟨Ai, ni, ci, EA⟩, ⟨Ae, ne, ce, EA⟩]) []) (fun _ => True) (fun _ h => h.tail) hN trivial ?_⟩
        clear hN hrd own hE hW
        simp only [Act.put, List.getElem_toArray, List.getElem_cons_succ, List.getElem_cons_zero, List.setIfInBounds_toArray, List.set_cons_zero, List.set_cons_succ]
        refine p_take 28 (o := _) rfl (by kernel_rfl) (by kernel_rfl) (by kernel_rfl) (by simp [Region.wanted, yielded]) (.string (str EB)) (fun _ _ _ h => h) (fun W hW => run_toStr (by rfl) Tryd.underlying23 Tryd.underlying5 Tryd.underlying9 _ Ak nk ck EB (by simp [Act.eval]) (hW.reads ⟨Ak, nk, ck, EB⟩ (by simp))) ?_
        simp only [Act.put, List.getElem_toArray, List.getElem_cons_succ, List.getElem_cons_zero, List.setIfInBounds_toArray, List.set_cons_zero, List.set_cons_succ]
        refine p_take 29 (o := _) rfl (by kernel_rfl) (by kernel_rfl) (by kernel_rfl) (by simp [Region.wanted, yielded]) (.bool true) (fun _ _ _ h => h) (fun W hW => run_eqT (by rfl) EB EB (rfl) (by simp [Act.eval]) (by simp [Act.eval]) W) ?_
        simp only [Act.put, List.getElem_toArray, List.getElem_cons_succ, List.getElem_cons_zero, List.setIfInBounds_toArray, List.set_cons_zero, List.set_cons_succ]
        refine p_take 30 (o := _) rfl (by kernel_rfl) (by kernel_rfl) (by kernel_rfl) (wanted_plain rfl) (.bool true) (fun _ _ _ h => h) (fun W hW => run_pick (b := true) (by rfl) (by simp [Act.eval]) (by simp [Act.eval]) W) ?_
        simp only [Act.put, List.getElem_toArray, List.getElem_cons_succ, List.getElem_cons_zero, List.setIfInBounds_toArray, List.set_cons_zero, List.set_cons_succ]
        refine p_take 31 (o := _) rfl (by kernel_rfl) (by kernel_rfl) (by kernel_rfl) (wanted_plain rfl) (.bool true) (fun _ _ _ h => h) (fun W hW => run_assign (by rfl) (by simp [Act.eval]) W) ?_
        simp only [Act.put, List.getElem_toArray, List.getElem_cons_succ, List.getElem_cons_zero, List.setIfInBounds_toArray, List.set_cons_zero, List.set_cons_succ]
        refine p_done (by kernel_rfl) (fun W hW => ?_) _
        go_wp2
        go_meet
        exact ⟨rfl, hW.old⟩
    case rest =>
    clear hBy
    obtain ⟨rfl, hBz⟩ := hcut
    go_wp2
    go_ret
    exact ⟨rfl, hw6.trans (hBz.mono hw6.size)⟩
theorem own_all (h : Int) (A1 : Option Addr) (n1 c1 : Nat) (sec : List UInt8) (A2 : Option Addr) (n2 c2 : Nat) (sh : List UInt8) (A3 : Option Addr) (n3 c3 : Nat) (sum : List UInt8) (w : World) (hr1 : ReadsB w w.heap.size A1 n1 sec) (hc1 : n1 ≤ c1) (hn1 : n1 ≤ 140737488351232) (hr2 : ReadsB w w.heap.size A2 n2 sh) (hc2 : n2 ≤ c2) (hn2 : n2 ≤ 140737488351232) (hr3 : ReadsB w w.heap.size A3 n3 sum) (hc3 : n3 ≤ c3) (hn3 : n3 ≤ 140737488351232) (htb0 : Tabs w) :
    Calls Tryd.prog 5 #[.int .i64 h, .slice A1 n1 c1, .slice A2 n2 c2, .slice A3 n3 c3] w fun e w' => e = .returned (.bool true) ∧ Below w.heap.size w w' :=
  own_law h A1 n1 c1 sec A2 n2 c2 sh A3 n3 c3 sum w hr1 hn1 hr2 hn2 hr3 hn3 hc3 htb0
end Go.Proofs.YtkacibgbpeeflaaDoor
