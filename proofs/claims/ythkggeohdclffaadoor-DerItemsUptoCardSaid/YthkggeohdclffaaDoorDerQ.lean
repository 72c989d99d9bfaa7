/-
  The walk of the reference's Items.
-/
import Derived.Test.YthkggeohdclffaaDoorDerP
import Derived.Test.YthkggeohdclffaaDoorDerR
import Derived.Test.YthkggeohdclffaaDoorDerU
set_option linter.unusedVariables false
set_option linter.unusedSimpArgs false
set_option maxRecDepth 100000
namespace Go.Proofs.YthkggeohdclffaaDoor
open Go.RowKit
namespace Der
theorem wpl_appI {w : World} {ops : Array Oper} {rest : List Oper} {o : Oper} {a : Act} {Q : Exit → Act → World → Prop} (hgd : o.guard = none) (s x : Operand) (ho : o.op = .call { callee := .builtin .append, args := #[s, x], argTypes := #[32, 32] })
    (B : Nat) (v : Value) (ys : List X) (hs : a.eval s = v) (hown : OwnI w B v ys) (p : X) (hp : OwnB w B p.2 p.1.body) (ad : Addr) (hx : a.eval x = .slice (some ad) 1 1) (hc : Cells w ad p.cells.toList) (had : ad.block < w.heap.size) (hl : ys.length + 1 ≤ 1000000000) (hB : B ≤ w.heap.size)
    (h : ∀ v' w', OwnI w' B v' (ys ++ [p]) → w.grownBy w' v.ownBlock → wpList Tryd.prog ops Q rest (a.put o.dst v') w') : wpList Tryd.prog ops Q (o :: rest) a w := by
  have hin := item_info
  simp only [Option.map_eq_some_iff, Prod.mk.injEq] at hin
  obtain ⟨i0, hi, hz, hs1, hb⟩ := hin
  obtain ⟨A2, c2, e2⟩ := hp.slice
  refine wpList_append_any w hgd s x 32 ho B 25 i0 _ 4 48 und_items hi hz hs1 hb rfl (by decide) v ys.length (flatI ys) hs hown.own w.heap.size (some ad) 1 1 p.cells.toList hx ⟨rfl, fun _ => ⟨ad, rfl, had, fun j u hu => hc.is j u hu⟩⟩ ?_ (by unfold maxLen; omega) (by omega) hB (fun v' w' h1 h2 _ => ?_)
  · intro u hu
    rw [X.cells, e2] at hu
    exact itemOne _ _ _ _ _ _ u hu
  · exact h v' w' (hown.app hp h2 (by rw [List.length_append]; simpa [flatI] using h1)) h2
theorem OwnI.nil (w : World) (B : Nat) : OwnI w B (.slice none 0 0) [] := ⟨World.ownsRow_nil _ _ _ 4, fun _ h => absurd h List.not_mem_nil⟩
theorem loadIt {w : World} {o : Oper} {a : Act} {Q : Exit → Act → World → Prop} {ops : Array Oper} {rest : List Oper} (hgd : o.guard = none) (x : Operand) (ho : o.op = .load 25 x) (g : Nat) (hx : a.eval x = .pointer (some ⟨g, 0, none⟩)) (tag : UInt8) (v : Value) (at_ len : Int) (hb : Blk w g 25 (itemCells tag v at_ len))
    (h : wpList Tryd.prog ops Q rest (a.put o.dst (.agg (itemCells tag v at_ len))) w) : wpList Tryd.prog ops Q (o :: rest) a w :=
  wpl_load hgd 25 x ho ⟨g, 0, none⟩ hx 4 aggIt (itemCells tag v at_ len).toList (by simp [itemCells]) hb.cells (by rw [Array.toArray_toList]; exact h)
theorem buildIt {w : World} {o : Oper} {ρ : Operand → Value} {x : Operand} (ho : o.op = .buildSlice 32 1 #[(0, x)]) (tag : UInt8) (A : Option Addr) (n c : Nat) (at_ len : Int) (hx : ρ x = .agg (itemCells tag (.slice A n c) at_ len)) :
    (execOp ρ o).run Tryd.prog w = .ok (.value (.slice (some ⟨w.heap.size, 0, none⟩) 1 1)) (w.alloc (.cells (itemCells tag (.slice A n c) at_ len) 25)) := by
  unfold execOp
  simp only [ho]
  simp [go_sem, Instr.buildSlice, und_items, hx, run_underlying und_items, itemCells]
end Der

set_option maxHeartbeats 8000000 in
set_option maxRecDepth 100000 in
theorem ritems_runs (A : Option Addr) (m c : Nat) (b : List UInt8) (hmc : m ≤ c) (hm : m ≤ 1000000000) (xs : List Der.Item) (hrun : Der.Runs b 0 xs) (w : World) (hr : ReadsB w w.heap.size A m b) :
    Calls Tryd.prog 13 #[.slice A m c] w fun e w' => (∃ v ys, e = .returned (.tuple #[v, .int .i64 0, .int .i64 0]) ∧ ys.map (·.1) = xs ∧ Der.OwnI w' w.heap.size v ys) ∧ Below w.heap.size w w' := by
  have Hm := hd hm
  have Hrl := hd hr.len
  go_enter Tryd.func13, Tryd.ntmps13
  go_wp2
  go_loopw [5, 6] (fun s5 s6 wr => ∃ (k : Nat) (pre : List Der.X) (rest : List Der.Item), s6 = .int .i64 (k : Int) ∧ xs = pre.map (·.1) ++ rest ∧ Der.Runs b k rest ∧ Der.OwnI wr w.heap.size s5 pre ∧ Below w.heap.size w wr ∧ k ≤ m) (fun _ s6 _ => m - (intOf s6).toNat)
  case atStart => exact ⟨0, [], xs, rfl, rfl, hrun, Der.OwnI.nil _ _, Below.refl _ _, Nat.zero_le _⟩
  case round =>
    obtain ⟨k, pre, rest, rfl, hx, hrs, own, hB, hkm⟩ := hrel
    obtain ⟨A5, c5, rfl⟩ := own.form
    have hrd : ReadsB wr wr.heap.size A m b := ⟨hr.len, (hr.is.below hB).more hB.size⟩
    have hpl := hrun.len
    have hx' := congrArg List.length hx
    rw [List.length_append, List.length_map] at hx'
    have Hpl := hd (show pre.length + 1 ≤ 1000000000 ∨ rest = [] by
      cases rest with
      | nil => exact .inr rfl
      | cons _ _ => left; rw [List.length_cons] at hx'; have := Hrl.out; have := Hm.out; omega)
    clear hpl hx'
    cases hrs with
    | done _ hge =>
      have t1 : ¬ (k : Int) < (m : Int) := by have := Hrl.out; omega
      go_wp2
      go_ret3
      exact ⟨⟨_, rfl, pre, by first | rfl | rw [hx, List.append_nil], own⟩, hB⟩
    | more _ r hlt he hr2 =>
      have t1 : (k : Int) < (m : Int) := by have := Hrl.out; omega
      have Hnl := hd (Der.next_len b k he)
      obtain ⟨X, HX⟩ : ∃ X, Hd (Der.next b k = X) := ⟨_, ⟨rfl⟩⟩
      rw [HX.out] at he hx hr2 Hnl
      have hfew : pre.length + 1 ≤ 1000000000 := by
        rcases Hpl.out with h | h
        · exact h
        · cases h
      obtain ⟨tg, bd, iat, iln, ie⟩ := X
      dsimp only at he hr2 Hnl
      subst he
      obtain ⟨nB, HnB⟩ : ∃ x, Hd (bd.length = x) := ⟨_, ⟨rfl⟩⟩
      have Hnx := hd (rnext_any A m c b k wr hrd hmc (by have := Hm.out; omega))
      rw [HX.out] at Hnx
      have wk : IntKind.i64.wrap ((k : Int) + (iln : Int)) = (k : Int) + (iln : Int) := IntWalk.i64_in _ (by have := Hnl.out; have := Hrl.out; have := Hm.out; omega)
      go_upto_region 7 with (first
        | (refine wpl_store_it rfl rfl _ _ rfl w2.heap.size tg A3 nB c3 iat (iln : Int) rfl rfl _ (Blk.nu rfl) rfl ?_; refine wpl_name (fun wo => Blk wo w2.heap.size 25 (itemCells tg (.slice A3 nB c3) iat (iln : Int)) ∧ Below w2.heap.size w2 wo) ⟨(Blk.nu rfl).setRow _, below_setRow ((Below.refl _ _).alloc (Nat.le_refl _) _) (Nat.le_refl _) _⟩ ?_; rintro w3 ⟨bw3, hBw3⟩)
        | (refine wpl_alloc rfl 25 rfl _ zeroIt ?_)
        | (go_at_call 10; refine Hnx.out.mono ?_; rintro e w2 ⟨A3, c3, rfl, own2, hB2⟩; simp only [HnB.out] at own2 ⊢))
      have hB3 := hB.trans ((hB2.trans (hBw3.mono hB2.size)).mono hB.size)
      have own3 : OwnB w3 w.heap.size (.slice A3 nB c3) bd := (own2.later hBw3).low hB.size
      have ownI3 : Der.OwnI w3 w.heap.size (.slice A5 pre.length c5) pre := (own.later hB2).later hBw3
      obtain ⟨g2, Hg2⟩ : ∃ y, Hd (w2.heap.size = y) := ⟨_, ⟨rfl⟩⟩
      rw [Hg2.out] at bw3 ⊢
      have hA4 : Below w3.heap.size w3 (w3.alloc (.cells (itemCells tg (.slice A3 nB c3) iat (iln : Int)) 25)) := (Below.refl _ _).alloc (Nat.le_refl _) _
      have c4 : Cells (w3.alloc (.cells (itemCells tg (.slice A3 nB c3) iat (iln : Int)) 25)) ⟨w3.heap.size, 0, none⟩ (itemCells tg (.slice A3 nB c3) iat (iln : Int)).toList := (Blk.nu rfl : Blk _ w3.heap.size 25 _).cells
      have H4 := hd (show Der.OwnI (w3.alloc (.cells (itemCells tg (.slice A3 nB c3) iat (iln : Int)) 25)) w.heap.size (.slice A5 pre.length c5) pre ∧ OwnB (w3.alloc (.cells (itemCells tg (.slice A3 nB c3) iat (iln : Int)) 25)) w.heap.size (.slice A3 nB c3) bd ∧ Cells (w3.alloc (.cells (itemCells tg (.slice A3 nB c3) iat (iln : Int)) 25)) ⟨w3.heap.size, 0, none⟩ (itemCells tg (.slice A3 nB c3) iat (iln : Int)).toList ∧ Blk (w3.alloc (.cells (itemCells tg (.slice A3 nB c3) iat (iln : Int)) 25)) g2 25 (itemCells tg (.slice A3 nB c3) iat (iln : Int)) ∧ Below w.heap.size w (w3.alloc (.cells (itemCells tg (.slice A3 nB c3) iat (iln : Int)) 25)) ∧ w3.heap.size < (w3.alloc (.cells (itemCells tg (.slice A3 nB c3) iat (iln : Int)) 25)).heap.size from ⟨ownI3.later hA4, own3.later hA4, c4, bw3.alloc _, hB3.alloc hB3.size _, by rw [alloc_size]; omega⟩)
      obtain ⟨W4, HW4⟩ : ∃ y, Hd (w3.alloc (.cells (itemCells tg (.slice A3 nB c3) iat (iln : Int)) 25) = y) := ⟨_, ⟨rfl⟩⟩
      rw [HW4.out] at H4
      obtain ⟨g3, Hg3⟩ : ∃ y, Hd (w3.heap.size = y) := ⟨_, ⟨rfl⟩⟩
      rw [Hg3.out] at H4
      have HBI := hd (fun (ρ : Operand → Value) (o : Oper) (x : Operand) (ho : o.op = .buildSlice 32 1 #[(0, x)]) (hx : ρ x = .agg (itemCells tg (.slice A3 nB c3) iat (iln : Int))) => (by have h := Der.buildIt (w := w3) ho tg A3 nB c3 iat (iln : Int) hx; rw [HW4.out, Hg3.out] at h; exact h : (execOp ρ o).run Tryd.prog w3 = .ok (.value (.slice (some ⟨g3, 0, none⟩) 1 1)) W4))
      clear hA4 c4
      go_upto_region 8 with (first
        | (at_builtin; refine Der.wpl_appI rfl _ _ rfl w.heap.size _ pre rfl H4.out.1 (⟨tg, bd, iat, iln, 0⟩, .slice A3 nB c3) H4.out.2.1 ⟨g3, 0, none⟩ rfl H4.out.2.2.1 H4.out.2.2.2.2.2 hfew H4.out.2.2.2.2.1.size ?_; intro v5 w5 own5 gr5)
        | (refine wpl_run (o := ⟨some 25, _, _, _, _, _⟩) (by simp [Region.wanted, yielded]) _ (HBI.out _ _ _ (by rfl) (by simp [Act.eval, Act.put])) ?_)
        | (refine Der.loadIt rfl _ rfl g2 rfl tg (.slice A3 nB c3) iat (iln : Int) bw3 ?_))
      have hne : (Value.slice A5 pre.length c5).ownBlock ≠ some g2 := fun e => by
        have h1 := (own.lt _ e).2
        have := hB2.size
        have := Hg2.out
        omega
      have bw5 := H4.out.2.2.2.1.grown gr5 (fun e => hne e.symm)
      have c5l : w5.cell? ⟨g2, 3, none⟩ = some (.int .i64 (iln : Int)) := by have h := bw5.cell 3; simpa [itemCells] using h
      have hB5 : Below w.heap.size w w5 := H4.out.2.2.2.2.1.grown gr5 H4.out.2.2.2.2.1.size (fun k hk => (own.lt _ hk).1)
      go_wp2
      go_roundw
      case rel => exact ⟨k + iln, pre ++ [(⟨tg, bd, iat, iln, 0⟩, .slice A3 nB c3)], r, by go_num, by rw [hx, List.map_append, List.append_assoc]; rfl, hr2, own5, hB5, by have := Hnl.out; have := Hrl.out; omega⟩
      case measure => have := Hnl.out; simp [intOf]; omega
set_option maxHeartbeats 8000000 in
set_option maxRecDepth 100000 in
theorem ritems_stops (A : Option Addr) (m c : Nat) (b : List UInt8) (hmc : m ≤ c) (hm : m ≤ 1000000000) (xs : List Der.Item) (j : Nat) (hrun : Der.Stops b 0 xs j) (w : World) (hr : ReadsB w w.heap.size A m b) :
    Calls Tryd.prog 13 #[.slice A m c] w fun e w' => e = .returned (.tuple #[.slice none 0 0, .int .i64 (j : Int), .int .i64 (Der.next b j).err]) ∧ Below w.heap.size w w' := by
  have Hm := hd hm
  have Hrl := hd hr.len
  obtain ⟨E, HE⟩ : ∃ y, Hd ((Der.next b j).err = y) := ⟨_, ⟨rfl⟩⟩
  rw [HE.out]
  go_enter Tryd.func13, Tryd.ntmps13
  go_wp2
  go_loopw [5, 6] (fun s5 s6 wr => ∃ (k : Nat) (pre : List Der.X) (rest : List Der.Item), s6 = .int .i64 (k : Int) ∧ xs = pre.map (·.1) ++ rest ∧ Der.Stops b k rest j ∧ Der.OwnI wr w.heap.size s5 pre ∧ Below w.heap.size w wr ∧ k ≤ m) (fun _ s6 _ => m - (intOf s6).toNat)
  case atStart => exact ⟨0, [], xs, rfl, rfl, hrun, Der.OwnI.nil _ _, Below.refl _ _, Nat.zero_le _⟩
  case round =>
    obtain ⟨k, pre, rest, rfl, hx, hrs, own, hB, hkm⟩ := hrel
    obtain ⟨A5, c5, rfl⟩ := own.form
    have hrd : ReadsB wr wr.heap.size A m b := ⟨hr.len, (hr.is.below hB).more hB.size⟩
    have hpl := hrun.len
    have hx' := congrArg List.length hx
    rw [List.length_append, List.length_map] at hx'
    have Hpl := hd (show pre.length + 1 ≤ 1000000000 ∨ rest = [] by
      cases rest with
      | nil => exact .inr rfl
      | cons _ _ => left; rw [List.length_cons] at hx'; have := Hrl.out; have := Hm.out; omega)
    clear hpl hx'
    cases hrs with
    | at_ _ hlt he =>
      have t1 : (j : Int) < (m : Int) := by have := Hrl.out; omega
      obtain ⟨X, HX⟩ : ∃ X, Hd (Der.next b j = X) := ⟨_, ⟨rfl⟩⟩
      have HEX := hd (show X.err = E by rw [← HX.out]; exact HE.out)
      rw [HX.out] at he
      obtain ⟨tg, bd, iat, iln, ie⟩ := X
      dsimp only at he
      have hEX : ie = E := HEX.out
      subst hEX
      obtain ⟨nB, HnB⟩ : ∃ x, Hd (bd.length = x) := ⟨_, ⟨rfl⟩⟩
      have Hnx := hd (rnext_any A m c b j wr hrd hmc (by have := Hm.out; omega))
      rw [HX.out] at Hnx
      go_wp2_with (first
        | (refine wpl_store_it rfl rfl _ _ rfl w2.heap.size tg A3 nB c3 iat (iln : Int) rfl rfl _ (Blk.nu rfl) rfl ?_; refine wpl_name (fun wo => Below w2.heap.size w2 wo) (below_setRow ((Below.refl _ _).alloc (Nat.le_refl _) _) (Nat.le_refl _) _) ?_; intro w3 hBw3)
        | (refine wpl_alloc rfl 25 rfl _ zeroIt ?_)
        | (go_at_call 10; refine Hnx.out.mono ?_; rintro e w2 ⟨A3, c3, rfl, own2, hB2⟩; simp only [HnB.out]))
      go_ret3
      exact ⟨rfl, hB.trans ((hB2.trans (hBw3.mono hB2.size)).mono hB.size)⟩
    | more _ r j hlt he hr2 =>
      have t1 : (k : Int) < (m : Int) := by have := Hrl.out; omega
      have Hnl := hd (Der.next_len b k he)
      obtain ⟨X, HX⟩ : ∃ X, Hd (Der.next b k = X) := ⟨_, ⟨rfl⟩⟩
      rw [HX.out] at he hx hr2 Hnl
      have hfew : pre.length + 1 ≤ 1000000000 := by
        rcases Hpl.out with h | h
        · exact h
        · cases h
      obtain ⟨tg, bd, iat, iln, ie⟩ := X
      dsimp only at he hr2 Hnl
      subst he
      obtain ⟨nB, HnB⟩ : ∃ x, Hd (bd.length = x) := ⟨_, ⟨rfl⟩⟩
      have Hnx := hd (rnext_any A m c b k wr hrd hmc (by have := Hm.out; omega))
      rw [HX.out] at Hnx
      have wk : IntKind.i64.wrap ((k : Int) + (iln : Int)) = (k : Int) + (iln : Int) := IntWalk.i64_in _ (by have := Hnl.out; have := Hrl.out; have := Hm.out; omega)
      go_upto_region 7 with (first
        | (refine wpl_store_it rfl rfl _ _ rfl w2.heap.size tg A3 nB c3 iat (iln : Int) rfl rfl _ (Blk.nu rfl) rfl ?_; refine wpl_name (fun wo => Blk wo w2.heap.size 25 (itemCells tg (.slice A3 nB c3) iat (iln : Int)) ∧ Below w2.heap.size w2 wo) ⟨(Blk.nu rfl).setRow _, below_setRow ((Below.refl _ _).alloc (Nat.le_refl _) _) (Nat.le_refl _) _⟩ ?_; rintro w3 ⟨bw3, hBw3⟩)
        | (refine wpl_alloc rfl 25 rfl _ zeroIt ?_)
        | (go_at_call 10; refine Hnx.out.mono ?_; rintro e w2 ⟨A3, c3, rfl, own2, hB2⟩; simp only [HnB.out] at own2 ⊢))
      have hB3 := hB.trans ((hB2.trans (hBw3.mono hB2.size)).mono hB.size)
      have own3 : OwnB w3 w.heap.size (.slice A3 nB c3) bd := (own2.later hBw3).low hB.size
      have ownI3 : Der.OwnI w3 w.heap.size (.slice A5 pre.length c5) pre := (own.later hB2).later hBw3
      obtain ⟨g2, Hg2⟩ : ∃ y, Hd (w2.heap.size = y) := ⟨_, ⟨rfl⟩⟩
      rw [Hg2.out] at bw3 ⊢
      have hA4 : Below w3.heap.size w3 (w3.alloc (.cells (itemCells tg (.slice A3 nB c3) iat (iln : Int)) 25)) := (Below.refl _ _).alloc (Nat.le_refl _) _
      have c4 : Cells (w3.alloc (.cells (itemCells tg (.slice A3 nB c3) iat (iln : Int)) 25)) ⟨w3.heap.size, 0, none⟩ (itemCells tg (.slice A3 nB c3) iat (iln : Int)).toList := (Blk.nu rfl : Blk _ w3.heap.size 25 _).cells
      have H4 := hd (show Der.OwnI (w3.alloc (.cells (itemCells tg (.slice A3 nB c3) iat (iln : Int)) 25)) w.heap.size (.slice A5 pre.length c5) pre ∧ OwnB (w3.alloc (.cells (itemCells tg (.slice A3 nB c3) iat (iln : Int)) 25)) w.heap.size (.slice A3 nB c3) bd ∧ Cells (w3.alloc (.cells (itemCells tg (.slice A3 nB c3) iat (iln : Int)) 25)) ⟨w3.heap.size, 0, none⟩ (itemCells tg (.slice A3 nB c3) iat (iln : Int)).toList ∧ Blk (w3.alloc (.cells (itemCells tg (.slice A3 nB c3) iat (iln : Int)) 25)) g2 25 (itemCells tg (.slice A3 nB c3) iat (iln : Int)) ∧ Below w.heap.size w (w3.alloc (.cells (itemCells tg (.slice A3 nB c3) iat (iln : Int)) 25)) ∧ w3.heap.size < (w3.alloc (.cells (itemCells tg (.slice A3 nB c3) iat (iln : Int)) 25)).heap.size from ⟨ownI3.later hA4, own3.later hA4, c4, bw3.alloc _, hB3.alloc hB3.size _, by rw [alloc_size]; omega⟩)
      obtain ⟨W4, HW4⟩ : ∃ y, Hd (w3.alloc (.cells (itemCells tg (.slice A3 nB c3) iat (iln : Int)) 25) = y) := ⟨_, ⟨rfl⟩⟩
      rw [HW4.out] at H4
      obtain ⟨g3, Hg3⟩ : ∃ y, Hd (w3.heap.size = y) := ⟨_, ⟨rfl⟩⟩
      rw [Hg3.out] at H4
      have HBI := hd (fun (ρ : Operand → Value) (o : Oper) (x : Operand) (ho : o.op = .buildSlice 32 1 #[(0, x)]) (hx : ρ x = .agg (itemCells tg (.slice A3 nB c3) iat (iln : Int))) => (by have h := Der.buildIt (w := w3) ho tg A3 nB c3 iat (iln : Int) hx; rw [HW4.out, Hg3.out] at h; exact h : (execOp ρ o).run Tryd.prog w3 = .ok (.value (.slice (some ⟨g3, 0, none⟩) 1 1)) W4))
      clear hA4 c4
      go_upto_region 8 with (first
        | (at_builtin; refine Der.wpl_appI rfl _ _ rfl w.heap.size _ pre rfl H4.out.1 (⟨tg, bd, iat, iln, 0⟩, .slice A3 nB c3) H4.out.2.1 ⟨g3, 0, none⟩ rfl H4.out.2.2.1 H4.out.2.2.2.2.2 hfew H4.out.2.2.2.2.1.size ?_; intro v5 w5 own5 gr5)
        | (refine wpl_run (o := ⟨some 25, _, _, _, _, _⟩) (by simp [Region.wanted, yielded]) _ (HBI.out _ _ _ (by rfl) (by simp [Act.eval, Act.put])) ?_)
        | (refine Der.loadIt rfl _ rfl g2 rfl tg (.slice A3 nB c3) iat (iln : Int) bw3 ?_))
      have hne : (Value.slice A5 pre.length c5).ownBlock ≠ some g2 := fun e => by
        have h1 := (own.lt _ e).2
        have := hB2.size
        have := Hg2.out
        omega
      have bw5 := H4.out.2.2.2.1.grown gr5 (fun e => hne e.symm)
      have c5l : w5.cell? ⟨g2, 3, none⟩ = some (.int .i64 (iln : Int)) := by have h := bw5.cell 3; simpa [itemCells] using h
      have hB5 : Below w.heap.size w w5 := H4.out.2.2.2.2.1.grown gr5 H4.out.2.2.2.2.1.size (fun k hk => (own.lt _ hk).1)
      go_wp2
      go_roundw
      case rel => exact ⟨k + iln, pre ++ [(⟨tg, bd, iat, iln, 0⟩, .slice A3 nB c3)], r, by go_num, by rw [hx, List.map_append, List.append_assoc]; rfl, hr2, own5, hB5, by have := Hnl.out; have := Hrl.out; omega⟩
      case measure => have := Hnl.out; simp [intOf]; omega
end Go.Proofs.YthkggeohdclffaaDoor
