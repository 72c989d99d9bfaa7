/-
  The law DerItems, walked.
-/
import Derived.Test.YthkggeohdclffaaDoorDerW
import Derived.Test.YthkggeohdclffaaDoorDerF
set_option linter.unusedVariables false
set_option linter.unusedSimpArgs false
set_option maxRecDepth 100000
namespace Go.Proofs.YthkggeohdclffaaDoor
open Go.RowKit
theorem Mut.body {W1 : World} {B g : Nat} {x : Der.Item} {A3 : Option Addr} {c3 : Nat} {v : Value} {ys : List Der.X} {W : World} (h : Mut W1 B g x A3 c3 v ys W) {A : Option Addr} {n c i : Nat} (hs : Shape W B (.slice A n c) n) (hi : i < n) :
    ∃ gb z, A = some ⟨gb, 0, none⟩ ∧ W.cell? ⟨gb, i, none⟩ = some (.int .u8 ((n8 z : Nat) : Int)) ∧ W.frozen? ⟨gb, i, none⟩ = false ∧ ∀ q, Mut W1 B g x A3 c3 v ys (W.setCell ⟨gb, i, none⟩ (.int .u8 ((n8 q : Nat) : Int))) := by
  obtain ⟨l, hl, hn⟩ := hs.is
  obtain ⟨gb, cap, e, _, _, _⟩ := hl.form (by omega)
  injection e with e1 e2 e3
  subst e1 e3
  have h1 := hl
  rw [e2] at h1
  exact ⟨gb, nth l i, rfl, h1.cell i (by omega), h1.frozen i, fun q => h.set hs ⟨gb, i, none⟩ rfl rfl q⟩
/-- Where an item's body stands. -/
theorem row_body {w : World} {B n c : Nat} {A : Option Addr} {ys : List Der.X} (h : w.ownsRow B 25 4 (.slice A n c) ys.length (Der.flatI ys)) {i : Nat} (hi : i < ys.length) :
    ∃ g, A = some ⟨g, 0, none⟩ ∧ w.cell? ⟨g, i * 4 + 1, none⟩ = some ys[i].2 := by
  rcases h.2 with ⟨_, h0⟩ | ⟨g, cap, cur, e, hb, hg, _⟩
  · omega
  · injection e with e1 e2 e3
    subst e1 e2 e3
    have hc := h.cells (g := g) rfl
    refine ⟨g, rfl, ?_⟩
    have h2 := hc (i * 4 + 1) _ (by rw [Der.flatI_at ys i hi 1 (by omega)]; rfl)
    have e4 : (⟨g, 0, none⟩ : Addr).add (i * 4 + 1) = ⟨g, i * 4 + 1, none⟩ := by unfold Addr.add; simp
    rw [e4] at h2
    exact h2
set_option maxHeartbeats 8000000 in
set_option maxRecDepth 100000 in
theorem items_any (A : Option Addr) (n c : Nat) (b : List UInt8) (at_ : Int) (w : World) (hr : ReadsB w w.heap.size A n b) (hc : n ≤ c) (hn : n ≤ 100000000) (htab : Lib.TabIs Tryd.prog w "internal/strconv.uint64pow10" .u64 Lib.pow10Tab)
    (hg : w.cell? ⟨0, 0, none⟩ = some (.iface 108 (.agg #[.pointer (some ⟨9, 53, none⟩)]))) :
    Calls Tryd.prog 4 #[.slice A n c, .int .i64 at_] w fun e w' => e = .returned (.bool true) ∧ Below w.heap.size w w' := by
  have Hn := hd hn
  have Hl := hd hr.len
  have Hc := hd hc
  have hgl : 0 < w.heap.size := by
    rcases Nat.lt_or_ge 0 w.heap.size with h | h
    · exact h
    · simp [World.cell?, Array.getElem?_eq_none h] at hg
  have HG := hd (fun (W : World) (hW : Below w.heap.size w W) => (hW.cell (p := ⟨0, 0, none⟩) hgl).trans hg)
  have RD := hd (fun (W : World) (hW : Below w.heap.size w W) => (⟨hr.len, (hr.is.below hW).more hW.size⟩ : ReadsB W W.heap.size A n b))
  clear hg hgl
  obtain ⟨xs, p, er, hxl, HI, HR⟩ := items_fix b
  obtain ⟨X, HX⟩ : ∃ X, Hd (Der.next b at_ = X) := ⟨_, ⟨rfl⟩⟩
  have HI := hd HI
  have HR := hd HR
  have Hxl := hd hxl
  clear hxl
  rename_i HI0 HR0
  clear HI0 HR0
  go_enter Tryd.func4, Tryd.ntmps4
  go_upto_region 2 with (first | (go_at_call 7; refine (head14_any w htab).mono ?_; rintro e w1 ⟨rfl, hw1⟩))
  have own0 : OwnB (w1.alloc (.cells #[] 5)) w1.heap.size (.slice (some ⟨w1.heap.size, 0, none⟩) 0 0) [] := OwnB.empty (Nat.le_refl _)
  have hA1 : Below w1.heap.size w1 (w1.alloc (.cells #[] 5)) := (Below.refl _ _).alloc (Nat.le_refl _) _
  have r1 : ReadsB (w1.alloc (.cells #[] 5)) w1.heap.size A n b := ⟨(RD.out w1 hw1).len, (RD.out w1 hw1).is.below hA1⟩
  go_upto_region 3 with (first | (at_builtin; refine wpl_appendB rfl _ _ rfl w1.heap.size (.slice (some ⟨w1.heap.size, 0, none⟩) 0 0) [] rfl own0 w1.heap.size A n c b rfl r1 (by rw [Hl.out]; have := Hn.out; simp; omega) (by simp) ?_; intro v2 w2 own2 gr2 at2))
  rw [List.nil_append] at own2
  obtain ⟨A6, c6, e6⟩ := own2.slice
  rw [Hl.out] at e6
  subst e6
  have hw2 : Below w.heap.size w w2 := below_appended (hw1.alloc hw1.size _) own0 gr2 hw1.size (by simp only [alloc_size]; have := hw1.size; omega)
  have RO := hd (fun (W : World) (hW : Below w2.heap.size w2 W) => (⟨Hl.out, (own2.reads_any.2.is.below hW).more hW.size⟩ : ReadsB W W.heap.size A6 n b))
  have hcap := own2.room
  have Hcap := hd hcap
  clear own0 hA1 r1 gr2 at2 own2 hcap
  have Hnx := hd (next_any A6 n c6 b at_ w2 (RO.out w2 (Below.refl _ _)) Hcap.out (by have := Hn.out; omega))
  rw [HX.out] at Hnx
  obtain ⟨tg, bd, iat, iln, ie⟩ := X
  obtain ⟨nB, HnB⟩ : ∃ x, Hd (bd.length = x) := ⟨_, ⟨rfl⟩⟩
  have HnBn := hd (show nB ≤ 100000000 by
    have h := Der.next_body_le b at_
    rw [HX.out] at h
    dsimp only at h
    have h1 := HnB.out
    have h2 := Hl.out
    have h3 := Hn.out
    omega)
  go_upto_region 4 with (first
    | (refine wpl_store_it rfl rfl _ _ rfl w3.heap.size tg A3 nB c3 iat (iln : Int) rfl rfl _ (Blk.nu rfl) rfl ?_; refine wpl_name (fun wo => Blk wo w3.heap.size 25 (itemCells tg (.slice A3 nB c3) iat (iln : Int)) ∧ Below w3.heap.size w3 wo) ⟨(Blk.nu rfl).setRow _, below_setRow ((Below.refl _ _).alloc (Nat.le_refl _) _) (Nat.le_refl _) _⟩ ?_; rintro w4 ⟨b7, hB34⟩)
    | (refine wpl_alloc rfl 25 rfl _ zeroIt ?_)
    | (go_at_call 8; refine Hnx.out.mono ?_; rintro e w3 ⟨A3, c3, rfl, own3, hB23⟩; simp only [HnB.out] at own3 ⊢))
  have hB24 : Below w2.heap.size w2 w4 := hB23.trans (hB34.mono hB23.size)
  have own4 : OwnB w4 w2.heap.size (.slice A3 nB c3) bd := own3.later hB34
  have hw4 := hw2.trans (hB24.mono hw2.size)
  obtain ⟨g7, Hg7⟩ : ∃ y, Hd (w3.heap.size = y) := ⟨_, ⟨rfl⟩⟩
  rw [Hg7.out] at b7 ⊢
  clear own3 hB34 hB23
  have Hny := hd (rnext_any A n c b at_ w4 (RD.out w4 hw4) Hc.out (by have := Hn.out; omega))
  rw [HX.out] at Hny
  go_upto_region 5 with (first
    | (refine wpl_store_it rfl rfl _ _ rfl w5.heap.size tg A9 nB c9 iat (iln : Int) rfl rfl _ (Blk.nu rfl) rfl ?_; refine wpl_name (fun wo => Blk wo w5.heap.size 25 (itemCells tg (.slice A9 nB c9) iat (iln : Int)) ∧ Below w5.heap.size w5 wo) ⟨(Blk.nu rfl).setRow _, below_setRow ((Below.refl _ _).alloc (Nat.le_refl _) _) (Nat.le_refl _) _⟩ ?_; rintro w6 ⟨b9, hB56⟩)
    | (refine wpl_alloc rfl 25 rfl _ zeroIt ?_)
    | (go_at_call 10; refine Hny.out.mono ?_; rintro e w5 ⟨A9, c9, rfl, own5, hB45⟩; simp only [HnB.out] at own5 ⊢))
  have hB46 : Below w4.heap.size w4 w6 := hB45.trans (hB56.mono hB45.size)
  have hB26 := hB24.trans (hB46.mono hB24.size)
  have own9 : OwnB w6 w2.heap.size (.slice A9 nB c9) bd := (own5.later hB56).low hB24.size
  have own46 := own4.later hB46
  have b76 := b7.below hB46 b7.lt
  have hw6 := hw2.trans (hB26.mono hw2.size)
  obtain ⟨g9, Hg9⟩ : ∃ y, Hd (w5.heap.size = y) := ⟨_, ⟨rfl⟩⟩
  rw [Hg9.out] at b9 ⊢
  clear own5 hB56 hB45 own4 b7 hB46 hB24 hw4
  -- both items, each a slice of its own
  obtain ⟨w7, Hw7⟩ : ∃ y, Hd (w6.alloc (.cells (itemCells tg (.slice A3 nB c3) iat (iln : Int)) 25) = y) := ⟨_, ⟨rfl⟩⟩
  obtain ⟨w8, Hw8⟩ : ∃ y, Hd (w7.alloc (.cells (itemCells tg (.slice A9 nB c9) iat (iln : Int)) 25) = y) := ⟨_, ⟨rfl⟩⟩
  have hA67 : Below w6.heap.size w6 w7 := by rw [← Hw7.out]; exact (Below.refl _ _).alloc (Nat.le_refl _) _
  have hA78 : Below w7.heap.size w7 w8 := by rw [← Hw8.out]; exact (Below.refl _ _).alloc (Nat.le_refl _) _
  have hA68 := hA67.trans (hA78.mono hA67.size)
  have b97 : Blk w7 g9 25 (itemCells tg (.slice A9 nB c9) iat (iln : Int)) := b9.below hA67 b9.lt
  have k7 : Blk w7 w6.heap.size 25 (itemCells tg (.slice A3 nB c3) iat (iln : Int)) := by rw [← Hw7.out]; exact Blk.nu rfl
  have k8 : Blk w8 w7.heap.size 25 (itemCells tg (.slice A9 nB c9) iat (iln : Int)) := by rw [← Hw8.out]; exact Blk.nu rfl
  have hone : ∀ (W : World) (g : Nat) (D : Option Addr) (d : Nat), Blk W g 25 (itemCells tg (.slice D nB d) iat (iln : Int)) → ReadsB W W.heap.size D nB bd → Der.ReadsI W (some ⟨g, 0, none⟩) 1 [((⟨tg, bd, iat, iln, ie⟩ : Der.Item), Value.slice D nB d)] := by
    intro W g D d hb hrb
    refine ⟨rfl, fun i hi _ => ?_⟩
    obtain rfl : i = 0 := by omega
    refine ⟨⟨g, 0, none⟩, D, nB, d, rfl, hb.lt, ?_, ?_, ?_, ?_, hrb⟩
    · exact hb.cells.is 0 _ rfl
    · exact hb.cells.is 1 _ rfl
    · exact hb.cells.is 2 _ rfl
    · exact hb.cells.is 3 _ rfl
  have R7 := hone w8 w6.heap.size A3 c3 (k7.below hA78 k7.lt) ⟨HnB.out, ((own46.reads_any.2.is.below hA68).more hA68.size)⟩
  have R8 := hone w8 w7.heap.size A9 c9 k8 ⟨HnB.out, ((own9.reads_any.2.is.below hA68).more hA68.size)⟩
  have HS := hd (same_any _ 1 1 _ 1 _ _ (by rfl) (by omega) w8 R7 R8)
  have HB7 := hd (fun (ρ : Operand → Value) (o : Oper) (x : Operand) (ho : o.op = .buildSlice 32 1 #[(0, x)]) (hx : ρ x = .agg (itemCells tg (.slice A3 nB c3) iat (iln : Int))) => (by have h := Der.buildIt (w := w6) ho tg A3 nB c3 iat (iln : Int) hx; rw [Hw7.out] at h; exact h : (execOp ρ o).run Tryd.prog w6 = .ok (.value (.slice (some ⟨w6.heap.size, 0, none⟩) 1 1)) w7))
  have HB8 := hd (fun (ρ : Operand → Value) (o : Oper) (x : Operand) (ho : o.op = .buildSlice 32 1 #[(0, x)]) (hx : ρ x = .agg (itemCells tg (.slice A9 nB c9) iat (iln : Int))) => (by have h := Der.buildIt (w := w7) ho tg A9 nB c9 iat (iln : Int) hx; rw [Hw8.out] at h; exact h : (execOp ρ o).run Tryd.prog w7 = .ok (.value (.slice (some ⟨w7.heap.size, 0, none⟩) 1 1)) w8))
  clear hone R7 R8 k7 k8
  go_upto_region 6 with (first
    | (go_at_call 11; refine HS.out.mono ?_; rintro e w9 ⟨rfl, hB89⟩)
    | (refine wpl_run (o := ⟨some 41, _, _, _, _, _⟩) (by simp [Region.wanted, yielded]) _ (HB8.out _ _ _ (by rfl) (by simp [Act.eval, Act.put])) ?_)
    | (refine Der.loadIt rfl _ rfl g9 rfl tg (.slice A9 nB c9) iat (iln : Int) b97 ?_)
    | (refine wpl_run (o := ⟨some 39, _, _, _, _, _⟩) (by simp [Region.wanted, yielded]) _ (HB7.out _ _ _ (by rfl) (by simp [Act.eval, Act.put])) ?_)
    | (refine Der.loadIt rfl _ rfl g7 rfl tg (.slice A3 nB c3) iat (iln : Int) b76 ?_))
  have hB69 : Below w6.heap.size w6 w9 := hA68.trans (hB89.mono hA68.size)
  have hB29 := hB26.trans (hB69.mono hB26.size)
  have hw9 := hw2.trans (hB29.mono hw2.size)
  have b79 := b76.below hB69 b76.lt
  have own39 := own46.later hB69
  clear HS HB7 HB8 hA67 hA78 hA68 b97 b9 own9 own46 b76 hw6 hB89 hB69 hB26
  have HI9 := hd (HI.out A6 n c6 w9 Hcap.out (by have := Hn.out; omega) (RO.out w9 hB29) (HG.out w9 hw9))
  go_upto_region 7 with (first | (go_at_call 12; refine HI9.out.mono ?_; rintro e w10 ⟨v12, ys, rfl, hys, ownI, hB910⟩; obtain ⟨A12, c12, e12⟩ := ownI.form; subst e12))
  have hB210 := hB29.trans (hB910.mono hB29.size)
  have hw10 := hw2.trans (hB210.mono hw2.size)
  have HR10 := hd (HR.out A n c w10 Hc.out (by have := Hn.out; omega) (RD.out w10 hw10))
  go_upto_region 8 with (first | (go_at_call 13; refine HR10.out.mono ?_; rintro e w11 ⟨v15, zs, rfl, hzs, ownZ, hB1011⟩; obtain ⟨A15, c15, e15⟩ := ownZ.form; subst e15))
  have hyz : ys.map (·.1) = zs.map (·.1) := hys.trans hzs.symm
  have hlen : zs.length = ys.length := by have h := congrArg List.length hyz; simpa using h.symm
  have hyl : ys.length ≤ n := by have h := congrArg List.length hys; rw [List.length_map] at h; have := Hxl.out.1; rw [Hl.out] at this; omega
  have HBs := hd (show ∀ y ∈ ys, y.1.body.length ≤ n from fun y hy => (by have h := Hxl.out.2 y.1 (by rw [← hys]; exact List.mem_map_of_mem hy); rw [Hl.out] at h; exact h))
  rw [hlen]
  have HS2 := hd (same_any A12 ys.length c12 A15 c15 ys zs hyz (by have := Hn.out; omega) w11 ((ownI.later hB1011).reads rfl) (by have h := ownZ.reads rfl; rw [hlen] at h; exact h))
  go_upto_region 9 with (first | (go_at_call 11; refine HS2.out.mono ?_; rintro e w12 ⟨rfl, hB1112⟩))
  have hB1012 := hB1011.trans (hB1112.mono hB1011.size)
  have hB212 := hB210.trans (hB1012.mono hB210.size)
  have hB912 := hB910.trans (hB1012.mono hB910.size)
  have ownI12 := (ownI.later hB1012).low hB29.size
  have M0 : Mut w2 w2.heap.size g7 ⟨tg, bd, iat, iln, ie⟩ A3 c3 (.slice A12 ys.length c12) ys w12 := ⟨by dsimp only; rw [HnB.out]; exact b79.below hB912 b79.lt, by dsimp only; have h := Shape.of (own39.later hB912); rw [HnB.out] at h ⊢; exact h, ownI12.own, fun y hy => Shape.of (ownI12.bodies y hy), hB212⟩
  have Hyl := hd hyl
  clear hyl hB1012 hB212 hB912 ownI12 ownI ownZ HS2 HR10 HI9 own39 b79 hB29 hw9 hB910 hB1011 hB1112 hB210 hw10 Hnx Hny HI HR hys hzs hyz
  go_wp2
  go_loopw [19] (fun s19 wr => ∃ k : Nat, k ≤ nB ∧ s19 = .int .i64 (k : Int) ∧ Mut w2 w2.heap.size g7 ⟨tg, bd, iat, iln, ie⟩ A3 c3 (.slice A12 ys.length c12) ys wr) (fun s19 _ => nB - (intOf s19).toNat)
  case atStart => exact ⟨0, Nat.zero_le _, rfl, M0⟩
  case round =>
    clear M0
    obtain ⟨k, hk0, rfl, M⟩ := hrel
    have hbx := M.bx
    dsimp only at hbx
    rw [HnB.out] at hbx
    have hcb : wr.cell? ⟨g7, 1, none⟩ = some (.slice A3 nB c3) := hbx.cell 1
    clear hbx
    by_cases hk : k < nB
    · have t1 : (k : Int) < (nB : Int) := by omega
      have wk : IntKind.i64.wrap ((k : Int) + 1) = (k : Int) + 1 := IntWalk.i64_in _ (by have := HnBn.out; omega)
      obtain ⟨gb, z, rfl, hcz, hfz, hset⟩ := M.body (by have h := M.sx; dsimp only at h; rw [HnB.out] at h; exact h) hk
      have hset1 := hd (hset (z + 1))
      clear hset M
      go_wp2
      go_roundw
      case rel => exact ⟨k + 1, by omega, by go_num, hset1.out⟩
      case measure => simp [intOf]; omega
    · obtain rfl : k = nB := by omega
      have t1 : ¬ (k : Int) < (k : Int) := by omega
      go_wp2
      go_loopw [20, 21] (fun s20 _ wr => ∃ k : Nat, k ≤ ys.length ∧ s20 = .int .i64 (k : Int) ∧ Mut w2 w2.heap.size g7 ⟨tg, bd, iat, iln, ie⟩ A3 c3 (.slice A12 ys.length c12) ys wr) (fun s20 _ _ => ys.length - (intOf s20).toNat)
      case atStart => exact ⟨0, Nat.zero_le _, rfl, M⟩
      case round =>
        clear M t1 hk0 hk hcb
        rename_i wr0 _ _ _ _
        obtain ⟨i, hi0, rfl, M⟩ := hrel
        by_cases hi : i < ys.length
        · have t2 : (i : Int) < (ys.length : Int) := by omega
          go_wp2
          go_loopw [21] (fun s21 wr => ∃ j : Nat, j ≤ (ys[i]'hi).1.body.length ∧ s21 = .int .i64 (j : Int) ∧ Mut w2 w2.heap.size g7 ⟨tg, bd, iat, iln, ie⟩ A3 c3 (.slice A12 ys.length c12) ys wr) (fun s21 _ => (ys[i]'hi).1.body.length - (intOf s21).toNat)
          case atStart => exact ⟨0, Nat.zero_le _, rfl, M⟩
          case round =>
            clear M
            rename_i wr1 _ _
            obtain ⟨j, hj0, rfl, M⟩ := hrel
            obtain ⟨gl, eA, hcl⟩ := row_body M.row hi
            subst eA
            obtain ⟨ly, hly, hll⟩ := (M.sh _ (List.getElem_mem hi)).is
            obtain ⟨Ay, cy, ey⟩ := Der.OwnB.sliceX hly
            have Hsy := hd (M.sh _ (List.getElem_mem hi))
            obtain ⟨ny, Hny⟩ : ∃ y, Hd ((ys[i]'hi).1.body.length = y) := ⟨_, ⟨rfl⟩⟩
            have Hnyn := hd (HBs.out _ (List.getElem_mem hi))
            rw [ey, hll] at hcl
            rw [ey, hll] at Hsy
            rw [Hny.out] at hj0 hcl Hsy Hnyn ⊢
            clear hly ey hll
            by_cases hj : j < ny
            · have t3 : (j : Int) < (ny : Int) := by omega
              have wk : IntKind.i64.wrap ((j : Int) + 1) = (j : Int) + 1 := IntWalk.i64_in _ (by have := Hnyn.out; have := Hn.out; omega)
              obtain ⟨gb, z, rfl, hcz, hfz, hset⟩ := M.body Hsy.out hj
              have hset1 := hd (hset (z + 1))
              clear hset M Hsy
              go_wp2
              go_roundw
              case rel => exact ⟨j + 1, by omega, by go_num, hset1.out⟩
              case measure => simp [intOf]; omega
            · obtain rfl : j = ny := by omega
              have t3 : ¬ (j : Int) < (j : Int) := by omega
              have wi : IntKind.i64.wrap ((i : Int) + 1) = (i : Int) + 1 := IntWalk.i64_in _ (by have := Hyl.out; have := Hn.out; omega)
              go_wp2
              go_roundw
              case rel => exact ⟨i + 1, by omega, by go_num, M⟩
              case measure => simp [intOf]; omega
        · obtain rfl : i = ys.length := by omega
          have t2 : ¬ (ys.length : Int) < (ys.length : Int) := by omega
          have hb := M.below
          have hbw := hw2.trans (hb.mono hw2.size)
          have HRO := hd (RO.out wr hb)
          have HRD := hd (RD.out wr hbw)
          clear hi hi0 hb M
          go_wp2_with (first
            | (refine wpl_run (o := ⟨some 125, _, _, _, _, _⟩) (by simp [Region.wanted, yielded, Act.put]) (.bool true) (run_eqT (by rfl) b b rfl (by simp [Act.eval, Act.put]) (by simp [Act.eval, Act.put]) _) ?_)
            | (refine wpl_run (o := ⟨some 124, _, _, _, _, _⟩) (by simp [Region.wanted, yielded, Act.put]) (.string (str b)) (run_toStr (by rfl) Tryd.underlying22 Tryd.underlying5 Tryd.underlying9 _ A n c b (by simp [Act.eval, Act.put]) HRD.out) ?_)
            | (refine wpl_run (o := ⟨some 122, _, _, _, _, _⟩) (by simp [Region.wanted, yielded, Act.put]) (.string (str b)) (run_toStr (by rfl) Tryd.underlying22 Tryd.underlying5 Tryd.underlying9 _ A6 n c6 b (by simp [Act.eval, Act.put]) HRO.out) ?_))
          go_ret
          exact ⟨rfl, hbw⟩
end Go.Proofs.YthkggeohdclffaaDoor
