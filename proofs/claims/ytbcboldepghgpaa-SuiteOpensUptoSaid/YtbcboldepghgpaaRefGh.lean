/-
  The walk of the reference's hash of Galois counter mode.
-/
import Derived.Test.YtbcboldepghgpaaRefGd
set_option linter.unusedVariables false
set_option linter.unusedSimpArgs false
set_option maxRecDepth 100000
namespace Go.Proofs.Ytbcboldepghgpaa
open Go.RowKit
set_option maxHeartbeats 4000000 in
set_option maxRecDepth 100000 in
theorem refHash_any (h : List UInt8) (hh : h.length = 16) (A : Option Addr) (n c : Nat) (aside : List UInt8) (D : Option Addr) (m d : Nat) (text : List UInt8) (w : World) (ha : ReadsB w w.heap.size A n aside) (ht : ReadsB w w.heap.size D m text) (hnm : n + m ≤ 140737488000000) :
    Calls Try.prog 70 #[.agg (arr h), .slice A n c, .slice D m d] w fun e w' => e = .returned (.agg (arr (Gcm.hash h aside text))) ∧ Below w.heap.size w w' := by
  have Hh := hd hh
  have Hal := hd ha.len
  have Htl := hd ht.len
  clear hh
  obtain ⟨PA, HPA⟩ : ∃ l, Hd (Gcm.padded aside = l) := ⟨_, ⟨rfl⟩⟩
  obtain ⟨PT, HPT⟩ : ∃ l, Hd (Gcm.padded text = l) := ⟨_, ⟨rfl⟩⟩
  obtain ⟨LA, HLA⟩ : ∃ l, Hd (Gcm.lenTo aside 8 = l) := ⟨_, ⟨rfl⟩⟩
  obtain ⟨LT, HLT⟩ : ∃ l, Hd (Gcm.lenTo text 8 = l) := ⟨_, ⟨rfl⟩⟩
  have HPAl := hd (show PA.length ≤ n + 16 by rw [← HPA.out, Gcm.padded_len, Hal.out]; have := Gcm.padLen_lt n; omega)
  have HPTl := hd (show PT.length ≤ m + 16 by rw [← HPT.out, Gcm.padded_len, Htl.out]; have := Gcm.padLen_lt m; omega)
  have HLAl := hd (show LA.length = 8 by rw [← HLA.out, Gcm.lenTo_len])
  have HLTl := hd (show LT.length = 8 by rw [← HLT.out, Gcm.lenTo_len])
  have HALL := hd (show Gcm.allOf aside text = ((PA ++ PT) ++ LA) ++ LT by rw [Gcm.allOf, HPA.out, HPT.out, HLA.out, HLT.out])
  have hl1 : PA.length + PT.length ≤ 140737488355328 := by have := HPAl.out; have := HPTl.out; omega
  have hl2 : (PA ++ PT).length + LA.length ≤ 140737488355328 := by have := HPAl.out; have := HPTl.out; have := HLAl.out; rw [List.length_append]; omega
  have hl3 : ((PA ++ PT) ++ LA).length + LT.length ≤ 140737488355328 := by have := HPAl.out; have := HPTl.out; have := HLAl.out; have := HLTl.out; rw [List.length_append, List.length_append]; omega
  have Hl1 := hd hl1
  have Hl2 := hd hl2
  have Hl3 := hd hl3
  clear hl1 hl2 hl3
  have hfa : ∀ W, ReadsB W W.heap.size A n aside → Calls Try.prog 84 #[.slice A n c] W fun e w' => ∃ v, e = .returned v ∧ OwnB w' W.heap.size v PA ∧ Below W.heap.size W w' := fun W h => by rw [← HPA.out]; exact full_any A n c aside W h (by omega)
  have hft : ∀ W, ReadsB W W.heap.size D m text → Calls Try.prog 84 #[.slice D m d] W fun e w' => ∃ v, e = .returned v ∧ OwnB w' W.heap.size v PT ∧ Below W.heap.size W w' := fun W h => by rw [← HPT.out]; exact full_any D m d text W h (by omega)
  have hla : ∀ W, Calls Try.prog 85 #[.slice A n c] W fun e w' => ∃ v, e = .returned v ∧ OwnB w' W.heap.size v LA ∧ Below W.heap.size W w' := fun W => by rw [← HLA.out]; exact length_any A n c aside W Hal.out
  have hlt : ∀ W, Calls Try.prog 85 #[.slice D m d] W fun e w' => ∃ v, e = .returned v ∧ OwnB w' W.heap.size v LT ∧ Below W.heap.size W w' := fun W => by rw [← HLT.out]; exact length_any D m d text W Htl.out
  have Hfa := hd hfa
  have Hft := hd hft
  have Hla := hd hla
  have Hlt := hd hlt
  clear hfa hft hla hlt
  have h0 : Blk ((w.alloc (.cells (arr h) 104)).alloc (.cells (arr (List.replicate 16 0)) 104)) w.heap.size 104 (arr h) ∧ Blk ((w.alloc (.cells (arr h) 104)).alloc (.cells (arr (List.replicate 16 0)) 104)) (w.heap.size + 1) 104 (arr (List.replicate 16 0)) ∧ Below w.heap.size w ((w.alloc (.cells (arr h) 104)).alloc (.cells (arr (List.replicate 16 0)) 104)) :=
    ⟨(Blk.nu (by simp)).alloc _, Blk.nu (by simp), ((Below.refl _ _).alloc (by simp) _).alloc (by simp) _⟩
  go_enter Try.func70, Try.ntmps70
  go_wp2_with (first | (at_builtin; refine wpl_appendB rfl _ _ rfl w1.heap.size v6 ((PA ++ PT) ++ LA) rfl own6 w7.heap.size A7 LT.length c7 LT rfl own7.reads_any.2 Hl3.out hC7.size ?_; intro v8 w8 own8 gr8 at8; have hC8 := below_appended hC7 own6 gr8 (Nat.le_refl _) hC7.size; clear own6 own7 gr8 at8) | (go_at_call 85; have hC6x := hC6; clear hC6x; refine (Hlt.out _).mono ?_; rintro e w7 ⟨v7, rfl, own7, bel7⟩; have hC7 := hC6.trans (bel7.mono hC6.size); replace own6 := own6.later bel7; obtain ⟨A7, c7, e7⟩ := own7.slice; subst e7) | (at_builtin; refine wpl_appendB rfl _ _ rfl w1.heap.size v4 (PA ++ PT) rfl own4 w5.heap.size A5 LA.length c5 LA rfl own5.reads_any.2 Hl2.out hC5.size ?_; intro v6 w6 own6 gr6 at6; have hC6 := below_appended hC5 own4 gr6 (Nat.le_refl _) hC5.size; clear own4 own5 gr6 at6) | (go_at_call 85; refine (Hla.out _).mono ?_; rintro e w5 ⟨v5, rfl, own5, bel5⟩; have hC5 := hC4.trans (bel5.mono hC4.size); replace own4 := own4.later bel5; obtain ⟨A5, c5, e5⟩ := own5.slice; subst e5) | (at_builtin; refine wpl_appendB rfl _ _ rfl w1.heap.size v2 PA rfl own2 w3.heap.size A3 PT.length c3 PT rfl own3.reads_any.2 Hl1.out hC3.size ?_; intro v4 w4 own4 gr4 at4; have hC4 := below_appended hC3 own2 gr4 (Nat.le_refl _) hC3.size; clear own2 own3 gr4 at4) | (go_at_call 84; refine (Hft.out _ (ht1.onward hC2)).mono ?_; rintro e w3 ⟨v3, rfl, own3, bel3⟩; have hC3 := hC2.trans (bel3.mono hC2.size); replace own2 := own2.later bel3; obtain ⟨A3, c3, e3⟩ := own3.slice; subst e3) | (go_at_call 84; refine (Hfa.out _ ha1).mono ?_; rintro e w2 ⟨v2, rfl, own2, bel2⟩; have hC2 := hC1.trans (bel2.mono hC1.size)) | (refine wpl_alloc rfl 104 rfl _ zero16 ?_; simp only [World.size_alloc]; first | (refine wpl_name (fun wo => Blk wo w.heap.size 104 (arr h) ∧ Blk wo (w.heap.size + 1) 104 (arr (List.replicate 16 0)) ∧ Below w.heap.size w wo) h0 ?_; clear h0; rintro w1 ⟨b0, b1, hB⟩; have ha1 := ha.onward hB; have ht1 := ht.onward hB; have hC1 := Below.refl w1.heap.size w1) | skip))
  clear ha1 ht1 ha ht hC1 hC2 hC3 hC4 hC5 hC6 hC7 bel2 bel3 bel5 bel7
  replace b0 := b0.below hC8 b0.lt
  replace b1 := b1.below hC8 b1.lt
  replace hB := hB.trans (hC8.mono hB.size)
  clear hC8
  rw [← HALL.out] at own8
  obtain ⟨ALL, HAL⟩ : ∃ l, Hd (Gcm.allOf aside text = l) := ⟨_, ⟨rfl⟩⟩
  rw [HAL.out] at own8
  obtain ⟨M, HM⟩ : ∃ M, Hd (ALL.length = 16 * M) := ⟨ALL.length / 16, ⟨by rw [← HAL.out, Gcm.allOf_len, Gcm.padded_len, Gcm.padded_len]; have := Gcm.padLen_zero aside.length; have := Gcm.padLen_zero text.length; omega⟩⟩
  have HM47 := hd (show 16 * M ≤ 140737488355328 by rw [← HM.out, ← HAL.out, HALL.out, List.length_append]; exact Hl3.out)
  obtain ⟨r, Hr⟩ : ∃ r, Hd (Gcm.hash h aside text = r) := ⟨_, ⟨rfl⟩⟩
  have Hrr := hd (show Gcm.feedB h M ALL (List.replicate 16 0) = r by rw [← HAL.out, Gcm.hash_is h aside text M (by rw [HAL.out, HM.out]), Hr.out])
  have Hpos := hd (show 0 < ALL.length by rw [← HAL.out, Gcm.allOf_len]; omega)
  obtain ⟨g, cp, rfl, hg1, hg2, hcp⟩ := own8.form Hpos.out
  have b2 : Blk (w8.alloc (.cells (arr (List.replicate 16 0)) 104)) w8.heap.size 104 (arr (List.replicate 16 0)) := Blk.nu (by simp)
  have hC : Below w8.heap.size w8 (w8.alloc (.cells (arr (List.replicate 16 0)) 104)) := (Below.refl _ _).alloc (Nat.le_refl _) _
  have b0l := b0.lt
  have b1l := b1.lt
  have Hcell := hd (fun (W : World) (hW : Below w8.heap.size w8 W) (i : Nat) (hi : i < ALL.length) => (hW.cell (p := ⟨g, i, none⟩) hg2).trans (own8.cell i hi))
  obtain ⟨z, Hz⟩ : ∃ z, Hd (w8.heap.size = z) := ⟨_, ⟨rfl⟩⟩
  rw [Hz.out] at b2 b0l b1l
  simp only [Hz.out]
  obtain ⟨N, HN⟩ : ∃ N, Hd (16 * M = N) := ⟨_, ⟨rfl⟩⟩
  have HAN := hd (show ALL.length = N by rw [HM.out, HN.out])
  rw [HAN.out]
  go_loopw [9] (fun i wr => ∃ j : Nat, j ≤ M ∧ i = .int .i64 ((16 * j : Nat) : Int) ∧ Blk wr z 104 (arr (Gcm.feedB h j ALL (List.replicate 16 0))) ∧ Below w8.heap.size w8 wr) (fun i _ => N - (intOf i).toNat)
  case atStart => exact ⟨0, by omega, rfl, b2, hC⟩
  case round =>
    clear b2 hC
    obtain ⟨j, hj, rfl, b2, hC⟩ := hrel
    obtain ⟨o, Ho⟩ : ∃ o, Hd (Gcm.feedB h j ALL (List.replicate 16 0) = o) := ⟨_, ⟨rfl⟩⟩
    rw [Ho.out] at b2
    have Hol := hd (show o.length = 16 by rw [← Ho.out, Gcm.feedB_len _ _ _ _ List.length_replicate])
    obtain ⟨I, HI⟩ : ∃ I, Hd (16 * j = I) := ⟨_, ⟨rfl⟩⟩
    rw [HI.out]
    by_cases hlt : j < M
    · have tk : (I : Int) < (N : Int) := by have := HI.out; have := HN.out; omega
      obtain ⟨x, Hx⟩ : ∃ x, Hd ((ALL.drop (16 * j)).take 16 = x) := ⟨_, ⟨rfl⟩⟩
      have Hxn := hd (show ∀ k, k < 16 → nth x k = nth ALL (I + k) from fun k hk => by
        rw [← Hx.out, ← HI.out]; unfold nth; rw [List.getD_eq_getElem?_getD, List.getD_eq_getElem?_getD, List.getElem?_take, if_pos hk, List.getElem?_drop])
      have Hnx := hd (show Gcm.feedB h (j + 1) ALL (List.replicate 16 0) = Gcm.mul (Aes.xor16 o x) h by rw [Gcm.feedB_snoc, Ho.out, Hx.out])
      obtain ⟨q, Hq⟩ : ∃ u, Hd (Aes.xor16 o x = u) := ⟨_, ⟨rfl⟩⟩
      have Hql := hd (show q.length = 16 by rw [← Hq.out, Aes.xor16_len, Hol.out])
      obtain ⟨y, Hy⟩ : ∃ u, Hd (Gcm.mul q h = u) := ⟨_, ⟨rfl⟩⟩
      have Hyl := hd (show y.length = 16 by rw [← Hy.out, Gcm.mul_len])
      rw [Hq.out, Hy.out] at Hnx
      go_wp2
      go_loopw [10] (fun i wr => ∃ k : Nat, k ≤ 16 ∧ i = .int .i64 (k : Int) ∧ Blk wr z 104 (arr (iter (Aes.xorStep x) k o)) ∧ Below w8.heap.size w8 wr) (fun i _ => 16 - (intOf i).toNat)
      case atStart => exact ⟨0, by omega, rfl, b2, hC⟩
      case round =>
        clear b2 hC
        obtain ⟨k, hk, rfl, b2, hC⟩ := hrel
        obtain ⟨s, Hs⟩ : ∃ s, Hd (iter (Aes.xorStep x) k o = s) := ⟨_, ⟨rfl⟩⟩
        rw [Hs.out] at b2
        have Hl := hd (show s.length = 16 by rw [← Hs.out, Aes.xorStep_len, Hol.out])
        by_cases hlk : k < 16
        · have tk2 : (k : Int) < 16 := by omega
          obtain ⟨p, Hp⟩ : ∃ p, Hd (I + k = p) := ⟨_, ⟨rfl⟩⟩
          have hpn : p < N := by have := Hp.out; have := HI.out; have := HN.out; omega
          have c1 := Hcell.out _ hC p (by rw [HAN.out]; exact hpn)
          rw [show nth ALL p = nth x k by rw [Hxn.out k hlk, Hp.out]] at c1
          have d2 := b2.arr_cell k (by rw [Hl.out]; omega)
          have f2 := b2.frozen k
          have e1 : (I : Int) + (k : Int) = (p : Int) := by have := Hp.out; omega
          have v1 : IntKind.i64.wrap (p : Int) = (p : Int) := IntWalk.i64_in _ (by have := HM47.out; have := HN.out; omega)
          have t1 : (p : Int) < (N : Int) := by omega
          go_wp2
          go_region
          go_wp2
          clear e1 v1 t1
          go_roundw
          case rel => exact ⟨k + 1, by omega, by go_num, by rw [iter, Hs.out]; exact (b2.arr_set _ _).drew, (hC.setCell (by simp; have := Hz.out; omega) _).drew⟩
          case measure => simp [intOf] <;> omega
        · have ek : k = 16 := by omega
          subst ek
          have tk2 : ¬ ((16 : Nat) : Int) < 16 := by omega
          rw [show s = q by rw [← Hs.out, ← Hq.out, Aes.xor16_eq]] at b2
          have b5 := b0.below hC b0.lt
          have v2 : IntKind.i64.wrap ((I : Int) + 16) = (I : Int) + 16 := IntWalk.i64_in _ (by have := HM47.out; have := HI.out; omega)
          go_wp2_with (first | (refine wpl_store_arr rfl 104 _ _ rfl z y rfl rfl 104 _ b2 16 ty16.size Hyl.out (by rw [arr_size, Hql.out]) ?_) | (go_at_call 86; refine (refMul_any q h Hql.out Hh.out _).mono ?_; rintro e w9 ⟨rfl, hB9⟩; rw [Hy.out]; replace b2 := b2.below hB9 b2.lt; replace hC := hC.trans (hB9.mono hC.size)) | (refine wpl_load_arr rfl 104 _ rfl _ rfl 16 ty16 q Hql.out b2.cells_arr ?_) | (refine wpl_load_arr rfl 104 _ rfl _ rfl 16 ty16 h Hh.out b5.cells_arr ?_))
          go_roundw
          case rel => exact ⟨j + 1, by omega, by have := HI.out; congr 1; omega, by rw [Hnx.out]; exact b2.setRow _, below_setRow hC (by rw [Hz.out]; exact Nat.le_refl _) _⟩
          case measure => simp [intOf]; have := HI.out; have := HN.out; omega
    · have ek : j = M := by omega
      subst ek
      rw [show I = N by rw [← HI.out, HN.out]]
      have tk : ¬ (N : Int) < (N : Int) := by omega
      have b6 := b1.below hC b1.lt
      have Hfin := hd (show r = o by rw [← Hrr.out, Ho.out])
      go_wp2_with (first | (refine wpl_load_arr rfl 104 _ rfl _ rfl 16 ty16 o Hol.out b2.cells_arr ?_) | (refine wpl_store_arr rfl 104 _ _ rfl (w.heap.size + 1) o rfl rfl 104 _ b6 16 ty16.size Hol.out (by rw [arr_size, List.length_replicate]) ?_))
      have hfin : Gcm.hash h aside text = o := by rw [Hr.out, Hfin.out]
      rw [hfin]
      exact ret_arr rfl (w.heap.size + 1) rfl ty16 o Hol.out (b6.setRow _).cells_arr rfl ⟨rfl, below_setRow (hB.trans (hC.mono (by have := b1l; have := Hz.out; omega))) (by omega) _⟩
end Go.Proofs.Ytbcboldepghgpaa
