/-
  The walk of chacha's tag.
-/
import Derived.Test.YthigbggacgiamaaDoorChaJ
import Derived.Test.YthigbggacgiamaaDoorJa
set_option linter.unusedVariables false
set_option linter.unusedSimpArgs false
set_option maxRecDepth 100000
namespace Go.Proofs.YthigbggacgiamaaDoor
open Go.RowKit
set_option maxHeartbeats 16000000 in
set_option maxRecDepth 100000 in
theorem Cha.tag_any (key nonce : List UInt8) (hk : key.length = 32) (hnn : nonce.length = 12) (A : Option Addr) (n c : Nat) (a : List UInt8) (D : Option Addr) (m d : Nat) (t : List UInt8) (w : World)
    (ha : ReadsB w w.heap.size A n a) (ht : ReadsB w w.heap.size D m t) (hs : n + m ≤ 140737488355200) :
    Calls Tryd.prog 53 #[.agg (arr key), .agg (arr nonce), .slice A n c, .slice D m d] w fun e w' => ∃ y, e = .returned (.slice (some ⟨y, 0, none⟩) 16 16) ∧ Blk w' y 87 (arr (Cha.tag key nonce a t)) ∧ w.heap.size ≤ y ∧ Below w.heap.size w w' := by
  have HK := hd hk
  have HN := hd hnn
  have La := hd ha.len
  have Lt := hd ht.len
  have Hsz := hd hs
  clear hk hnn
  obtain ⟨P, HP⟩ : ∃ P, Hd (Cha.padN n = P) := ⟨_, ⟨rfl⟩⟩
  obtain ⟨R, HR⟩ : ∃ P, Hd (Cha.padN m = P) := ⟨_, ⟨rfl⟩⟩
  have HPl := hd (show P < 16 by rw [← HP.out]; exact Cha.padN_lt _)
  have HRl := hd (show R < 16 by rw [← HR.out]; exact Cha.padN_lt _)
  have w1 : IntKind.i64.wrap (-(n : Int)) = -(n : Int) := IntWalk.i64_in _ (by omega)
  have w2 : IntKind.i64.wrap (-(m : Int)) = -(m : Int) := IntWalk.i64_in _ (by omega)
  have x1 : bits .and .i64 (-(n : Int)) 15 = (P : Int) := by rw [← HP.out]; exact Cha.and15 n (by omega)
  have x2 : bits .and .i64 (-(m : Int)) 15 = (R : Int) := by rw [← HR.out]; exact Cha.and15 m (by omega)
  have b0 : Blk ((w.alloc (.cells (arr key) 23)).alloc (.cells (arr nonce) 27)) w.heap.size 23 (arr key) := (Blk.nu rfl).alloc _
  have b1 : Blk ((w.alloc (.cells (arr key) 23)).alloc (.cells (arr nonce) 27)) (w.heap.size + 1) 27 (arr nonce) := Blk.nu (by simp)
  have hB0 := ((Below.refl w.heap.size w).alloc (by simp) (.cells (arr key) 23)).alloc (by simp) (.cells (arr nonce) 27)
  have H : Cha.Tg w key nonce [] (.slice none 0 0) ((w.alloc (.cells (arr key) 23)).alloc (.cells (arr nonce) 27)) := ⟨b0, b1, OwnB.nil _ _, hB0⟩
  clear b0 b1 hB0
  go_enter Tryd.func53, Tryd.ntmps53
  go_wp2
  refine wp_name (fun W => Cha.Tg w key nonce [] (.slice none 0 0) W ∧ Blk W (w.heap.size + 1 + 1) 30 #[.slice A n c, .slice D m d]) ⟨H.next ((Below.refl _ _).alloc (Nat.le_refl _) _), Blk.nu (by simp)⟩ ?_
  clear H
  rintro W0 ⟨H, bs⟩
  have c0 : W0.cell? ⟨w.heap.size + 1 + 1, 0, none⟩ = some (.slice A n c) := bs.cell 0
  have ha0 : ReadsB W0 w.heap.size A n a := ⟨ha.len, ha.is.below H.old⟩
  have l0 : ([] : List UInt8).length + a.length ≤ 140737488355328 := by rw [La.out]; simp; omega
  refine wp_loop_rounds 3 ?_
  rw [rounds_succ]
  go_wp2_with (first
    | (at_builtin; refine Cha.wpl_pad rfl _ _ rfl w.heap.size v1 a rfl own1 P rfl h1 l1 hs1 ?_; intro v2 W2 own2 gr2 at2)
    | (at_builtin; refine wpl_appendB rfl _ _ rfl w.heap.size (.slice none 0 0) [] rfl H.own w.heap.size A n c a rfl ha0 l0 H.old.size ?_; intro v1 W1 own1 gr1 at1; rw [List.nil_append] at own1; have H1 := H.app own1 gr1; have bs1 := bs.appended H.own gr1 (by decide); have h1 : 0 < a.length ∨ P = 0 := (by rw [La.out, ← HP.out]; unfold Cha.padN; omega); have l1 : a.length + P ≤ 140737488355328 := (by rw [La.out]; have := HPl.out; omega); have hs1 := H1.old.size))
  obtain ⟨a1, Ha1⟩ : ∃ x, Hd (a ++ List.replicate P 0 = x) := ⟨_, ⟨rfl⟩⟩
  rw [Ha1.out] at own2
  have La1 := hd (show a1.length = n + P by rw [← Ha1.out, List.length_append, List.length_replicate, La.out])
  have H2 := H1.app own2 gr2
  have bs2 := bs1.appended own1 gr2 (by decide)
  clear H bs c0 ha0 l0 own1 gr1 at1 H1 bs1 h1 l1 hs1 own2 gr2 at2
  have c1 : W2.cell? ⟨w.heap.size + 1 + 1, 1, none⟩ = some (.slice D m d) := bs2.cell 1
  have ht0 : ReadsB W2 w.heap.size D m t := ⟨ht.len, ht.is.below H2.old⟩
  have l2 : a1.length + t.length ≤ 140737488355328 := by rw [La1.out, Lt.out]; have := HPl.out; omega
  rw [rounds_succ]
  go_wp2_with (first
    | (at_builtin; refine Cha.wpl_pad rfl _ _ rfl w.heap.size v3 (a1 ++ t) rfl own3 R rfl h3 l3 hs3 ?_; intro v4 W4 own4 gr4 at4)
    | (at_builtin; refine wpl_appendB rfl _ _ rfl w.heap.size v2 a1 rfl H2.own w.heap.size D m d t rfl ht0 l2 H2.old.size ?_; intro v3 W3 own3 gr3 at3; have H3 := H2.app own3 gr3; have h3 : 0 < (a1 ++ t).length ∨ R = 0 := (by rw [List.length_append, La1.out, Lt.out, ← HR.out]; unfold Cha.padN; omega); have l3 : (a1 ++ t).length + R ≤ 140737488355328 := (by rw [List.length_append, La1.out, Lt.out]; have := HRl.out; have := HPl.out; omega); have hs3 := H3.old.size))
  obtain ⟨a2, Ha2⟩ : ∃ x, Hd (a1 ++ t ++ List.replicate R 0 = x) := ⟨_, ⟨rfl⟩⟩
  rw [Ha2.out] at own4
  have La2 := hd (show a2.length = n + P + m + R by rw [← Ha2.out, List.length_append, List.length_replicate, List.length_append, La1.out, Lt.out])
  have H4 := H3.app own4 gr4
  clear H2 bs2 c1 ht0 l2 own3 gr3 at3 H3 h3 l3 hs3 own4 gr4 at4
  rw [rounds_succ]
  go_wp2
  obtain ⟨y, Hy⟩ : ∃ y, Hd (W4.heap.size = y) := ⟨_, ⟨rfl⟩⟩
  have H := H4.next ((Below.refl W4.heap.size W4).alloc (Nat.le_refl _) (.cells #[.slice A n c, .slice D m d] 30))
  have bs := Blk.nu (w := W4) (t := 30) (cs := #[.slice A n c, .slice D m d]) Hy.out.symm
  rw [Hy.out]
  refine wp_name (fun W => Cha.Tg w key nonce a2 v4 W ∧ Blk W y 30 #[.slice A n c, .slice D m d]) ⟨H, bs⟩ ?_
  clear H bs H4
  rintro W5 ⟨H, bs⟩
  refine wp_loop_rounds 3 ?_
  have c0 : W5.cell? ⟨y, 0, none⟩ = some (.slice A n c) := bs.cell 0
  obtain ⟨N0, HN0⟩ : ∃ x, Hd (UInt64.ofNat n = x) := ⟨_, ⟨rfl⟩⟩
  rw [rounds_succ]
  go_wp2
  go_loopw [9, 43] (fun v i wr => ∃ (v' : Value) (j : Nat), v' = v ∧ j ≤ 8 ∧ i = .int .i64 (j : Int) ∧ Cha.Tg w key nonce (a2 ++ Cha.le8To N0 j) v' wr ∧ Blk wr y 30 #[.slice A n c, .slice D m d]) (fun _ i _ => 8 - (intOf i).toNat)
  case atStart => exact ⟨_, 0, rfl, by omega, rfl, by rw [show Cha.le8To N0 0 = [] from rfl, List.append_nil]; exact H, bs⟩
  case round =>
    clear H bs c0
    obtain ⟨v, j, rfl, hj, rfl, H, bs⟩ := hrel
    obtain ⟨lj, Hlj⟩ : ∃ x, Hd (a2 ++ Cha.le8To N0 j = x) := ⟨_, ⟨rfl⟩⟩
    rw [Hlj.out] at H
    by_cases hlt : j < 8
    · have tj : (j : Int) < 8 := by omega
      have Llj := hd (show lj.length = n + P + m + R + j by rw [← Hlj.out, List.length_append, Cha.le8To_len, La2.out])
      obtain ⟨E, HE⟩ : ∃ E, Hd (8 * j = E) := ⟨_, ⟨rfl⟩⟩
      have eE : (8 : Int) * (j : Int) = (E : Int) := by have := HE.out; omega
      have wE : IntKind.i64.wrap (E : Int) = (E : Int) := IntWalk.i64_in _ (by have := HE.out; omega)
      obtain ⟨x, Hx⟩ : ∃ x, Hd ((shr64 N0 E).toUInt8 = x) := ⟨_, ⟨rfl⟩⟩
      have Hnx := hd (show a2 ++ Cha.le8To N0 (j + 1) = lj ++ [x] by rw [Cha.le8To_next, ← List.append_assoc, Hlj.out, HE.out, Hx.out])
      have own1 : OwnB (wr.alloc (.cells #[.int .u8 (n8 x)] 5)) w.heap.size v lj := H.own.alloc _
      have hr1 : ReadsB (wr.alloc (.cells #[.int .u8 (n8 x)] 5)) (wr.heap.size + 1) (some ⟨wr.heap.size, 0, none⟩) 1 [x] := ReadsB.one _ _
      have hB1 : w.heap.size ≤ (wr.alloc (.cells #[.int .u8 (n8 x)] 5)).heap.size := by have := H.old.size; simp; omega
      have hcl : lj.length + [x].length ≤ 140737488355328 := by rw [Llj.out]; have := HPl.out; have := HRl.out; have := Hsz.out; simp; omega
      have H1 := H.next ((Below.refl wr.heap.size wr).alloc (Nat.le_refl _) (.cells #[.int .u8 (n8 x)] 5))
      have bs1 := bs.alloc (.cells #[.int .u8 (n8 x)] 5)
      clear H bs
      go_wp2_with (first
        | (refine wpl_run (o := ⟨some 49, _, _, _, _, _⟩) (wanted_plain rfl) (.int .u64 ((n64 N0 : Nat) : Int)) (by rw [← HN0.out]; exact Cha.run_lenU (by rfl) n (by have := Hsz.out; omega) (by simp [Act.eval])) ?_)
        | (at_builtin; rw [Hx.out]; refine wpl_appendB rfl _ _ rfl w.heap.size v lj rfl own1 (wr.heap.size + 1) _ 1 1 [x] rfl hr1 hcl hB1 ?_; intro v2 w2 own2 gr2 at2))
      go_roundw
      case rel => exact ⟨_, j + 1, rfl, by omega, by go_num, by rw [Hnx.out]; exact H1.app own2 gr2, bs1.appended own1 gr2 (by decide)⟩
      case measure => simp [intOf]; omega
    · have ej : j = 8 := by omega
      subst ej
      have tj : ¬ ((8 : Nat) : Int) < 8 := by omega
      obtain ⟨a3, Ha3⟩ : ∃ x, Hd (lj = x) := ⟨_, ⟨rfl⟩⟩
      rw [Ha3.out] at Hlj H
      have La3 := hd (show a3.length = n + P + m + R + 8 by rw [← Hlj.out, List.length_append, Cha.le8To_len, La2.out])
      clear Ha3
      go_wp2
      have Hlj0 := Hlj
      clear Hlj
      generalize wr = W5 at *
      have c0 : W5.cell? ⟨y, 1, none⟩ = some (.slice D m d) := bs.cell 1
      obtain ⟨N1, HN1⟩ : ∃ x, Hd (UInt64.ofNat m = x) := ⟨_, ⟨rfl⟩⟩
      rw [rounds_succ]
      go_wp2
      go_loopw [9, 43] (fun v i wr => ∃ (v' : Value) (j : Nat), v' = v ∧ j ≤ 8 ∧ i = .int .i64 (j : Int) ∧ Cha.Tg w key nonce (a3 ++ Cha.le8To N1 j) v' wr ∧ Blk wr y 30 #[.slice A n c, .slice D m d]) (fun _ i _ => 8 - (intOf i).toNat)
      case atStart => exact ⟨_, 0, rfl, by omega, rfl, by rw [show Cha.le8To N1 0 = [] from rfl, List.append_nil]; exact H, bs⟩
      case round =>
        clear H bs c0
        obtain ⟨v, j, rfl, hj, rfl, H, bs⟩ := hrel
        obtain ⟨lj, Hlj⟩ : ∃ x, Hd (a3 ++ Cha.le8To N1 j = x) := ⟨_, ⟨rfl⟩⟩
        rw [Hlj.out] at H
        by_cases hlt : j < 8
        · have tj : (j : Int) < 8 := by omega
          have Llj := hd (show lj.length = n + P + m + R + 8 + j by rw [← Hlj.out, List.length_append, Cha.le8To_len, La3.out])
          obtain ⟨E, HE⟩ : ∃ E, Hd (8 * j = E) := ⟨_, ⟨rfl⟩⟩
          have eE : (8 : Int) * (j : Int) = (E : Int) := by have := HE.out; omega
          have wE : IntKind.i64.wrap (E : Int) = (E : Int) := IntWalk.i64_in _ (by have := HE.out; omega)
          obtain ⟨x, Hx⟩ : ∃ x, Hd ((shr64 N1 E).toUInt8 = x) := ⟨_, ⟨rfl⟩⟩
          have Hnx := hd (show a3 ++ Cha.le8To N1 (j + 1) = lj ++ [x] by rw [Cha.le8To_next, ← List.append_assoc, Hlj.out, HE.out, Hx.out])
          have own1 : OwnB (wr.alloc (.cells #[.int .u8 (n8 x)] 5)) w.heap.size v lj := H.own.alloc _
          have hr1 : ReadsB (wr.alloc (.cells #[.int .u8 (n8 x)] 5)) (wr.heap.size + 1) (some ⟨wr.heap.size, 0, none⟩) 1 [x] := ReadsB.one _ _
          have hB1 : w.heap.size ≤ (wr.alloc (.cells #[.int .u8 (n8 x)] 5)).heap.size := by have := H.old.size; simp; omega
          have hcl : lj.length + [x].length ≤ 140737488355328 := by rw [Llj.out]; have := HPl.out; have := HRl.out; have := Hsz.out; simp; omega
          have H1 := H.next ((Below.refl wr.heap.size wr).alloc (Nat.le_refl _) (.cells #[.int .u8 (n8 x)] 5))
          have bs1 := bs.alloc (.cells #[.int .u8 (n8 x)] 5)
          clear H bs
          go_wp2_with (first
            | (refine wpl_run (o := ⟨some 49, _, _, _, _, _⟩) (wanted_plain rfl) (.int .u64 ((n64 N1 : Nat) : Int)) (by rw [← HN1.out]; exact Cha.run_lenU (by rfl) m (by have := Hsz.out; omega) (by simp [Act.eval])) ?_)
            | (at_builtin; rw [Hx.out]; refine wpl_appendB rfl _ _ rfl w.heap.size v lj rfl own1 (wr.heap.size + 1) _ 1 1 [x] rfl hr1 hcl hB1 ?_; intro v2 w2 own2 gr2 at2))
          go_roundw
          case rel => exact ⟨_, j + 1, rfl, by omega, by go_num, by rw [Hnx.out]; exact H1.app own2 gr2, bs1.appended own1 gr2 (by decide)⟩
          case measure => simp [intOf]; omega
        · have ej : j = 8 := by omega
          subst ej
          have tj : ¬ ((8 : Nat) : Int) < 8 := by omega
          obtain ⟨a4, Ha4⟩ : ∃ x, Hd (lj = x) := ⟨_, ⟨rfl⟩⟩
          rw [Ha4.out] at Hlj H
          have La4 := hd (show a4.length = n + P + m + R + 8 + 8 by rw [← Hlj.out, List.length_append, Cha.le8To_len, La3.out])
          clear Ha4
          go_wp2
          obtain ⟨A9, c9, e9⟩ := H.own.slice
          subst e9
          have hroom := H.own.room
          obtain ⟨L9, HL9⟩ : ∃ x, Hd (a4.length = x) := ⟨_, ⟨rfl⟩⟩
          rw [HL9.out] at H hroom
          rw [HL9.out]
          have hL9 : L9 ≤ 140737488355328 := by rw [← HL9.out, La4.out]; have := HPl.out; have := HRl.out; have := Hsz.out; omega
          have Htg := hd (show Cha.tagged a t = a4 by
            unfold Cha.tagged Cha.pad Cha.le8
            rw [La.out, Lt.out, HP.out, HR.out, HN0.out, HN1.out, Ha1.out, Ha2.out, Hlj0.out, Hlj.out])
          rw [rounds_succ]
          go_wp2_with (first
            | (refine wpl_load_arr rfl 23 _ rfl _ rfl 32 Cha.ty32 key HK.out H.bk.cells_arr ?_)
            | (refine wpl_load_arr rfl 27 _ rfl _ rfl 12 Cha.ty12 nonce HN.out H.bn.cells_arr ?_))
          refine (Cha.block_any key nonce 0 HK.out HN.out wr).mono ?_
          rintro e W6 ⟨rfl, hB6⟩
          obtain ⟨x, Hx⟩ : ∃ x, Hd (Cha.block key 0 nonce = x) := ⟨_, ⟨rfl⟩⟩
          rw [Hx.out]
          have Lx := hd (show x.length = 64 by rw [← Hx.out, Cha.block_len])
          have H6 := H.next hB6
          clear H hB6 bs
          obtain ⟨z, Hz⟩ : ∃ z, Hd (W6.heap.size = z) := ⟨_, ⟨rfl⟩⟩
          have Lx2 := hd (show (x.take 32).length = 32 by rw [List.length_take, Lx.out]; rfl)
          go_wp2_with (first
            | (refine wpl_alloc rfl 126 rfl _ Cha.zero64 ?_; rw [Hz.out])
            | (refine wpl_store_arr rfl 126 _ _ rfl z x rfl rfl 126 _ (Blk.nu Hz.out.symm) 64 Cha.agg64.size Lx.out (by rw [arr_size]; rfl) ?_; refine wpl_name (fun W => Cha.Tg w key nonce a4 (.slice A9 L9 c9) W ∧ Blk W z 126 (arr x)) ⟨H6.next (below_setRow ((Below.refl _ _).alloc (Nat.le_refl _) _) (Nat.le_of_eq Hz.out) _), (Blk.nu Hz.out.symm).setRow _⟩ ?_; clear H6; rintro W7 ⟨H7, bx⟩; have cx : Cells W7 ⟨z, 0, none⟩ ((x.take 32).map U8) := (bx.cells_at 0 _ (by intro j v hv; rw [Nat.zero_add]; simp only [arr, List.getElem?_toArray]; rw [List.map_take, List.getElem?_take] at hv; split at hv; exact hv; cases hv)))
            | (refine wpl_toArray rfl 23 _ rfl (some ⟨z, 0, none⟩) 32 64 rfl Tryd.underlying23 (Nat.le_refl _) ?_)
            | (refine wpl_load_arr rfl 23 _ rfl ⟨z, 0, none⟩ rfl 32 Cha.ty32 (x.take 32) Lx2.out cx ?_))
          refine (Cha.poly_any (x.take 32) Lx2.out A9 L9 c9 a4 _ (by have h := H7.own.reads_any; exact ⟨h.1.symm, h.2.is⟩) hroom hL9).mono ?_
          rintro e W8 ⟨rfl, hB8⟩
          obtain ⟨u, Hu⟩ : ∃ u, Hd (Cha.poly (x.take 32) a4 = u) := ⟨_, ⟨rfl⟩⟩
          rw [Hu.out]
          have Lu := hd (show u.length = 16 by rw [← Hu.out, Cha.poly_len])
          have Hfin := hd (show Cha.tag key nonce a t = u by unfold Cha.tag; rw [Hx.out, Htg.out, Hu.out])
          have H8 := H7.next hB8
          clear H7 hB8 bx cx
          obtain ⟨z2, Hz2⟩ : ∃ z, Hd (W8.heap.size = z) := ⟨_, ⟨rfl⟩⟩
          have hz2 : w.heap.size ≤ z2 := by rw [← Hz2.out]; exact H8.old.size
          go_wp2_with (first
            | (refine wpl_alloc rfl 87 rfl _ Cha.zero16 ?_; rw [Hz2.out])
            | (refine wpl_store_arr rfl 87 _ _ rfl z2 u rfl rfl 87 _ (Blk.nu Hz2.out.symm) 16 Cha.agg16.size Lu.out (by rw [arr_size]; rfl) ?_; refine wpl_name (fun W => Cha.Tg w key nonce a4 (.slice A9 L9 c9) W ∧ Blk W z2 87 (arr u)) ⟨H8.next (below_setRow ((Below.refl _ _).alloc (Nat.le_refl _) _) (Nat.le_of_eq Hz2.out) _), (Blk.nu Hz2.out.symm).setRow _⟩ ?_; clear H8; rintro W9 ⟨H9, bu⟩))
          go_ret
          exact ⟨z2, rfl, by rw [Hfin.out]; exact bu, hz2, H9.old⟩
end Go.Proofs.YthigbggacgiamaaDoor
