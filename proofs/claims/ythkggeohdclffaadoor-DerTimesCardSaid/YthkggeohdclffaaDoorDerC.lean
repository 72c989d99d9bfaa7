/-
  The walk of der.Next.
-/
import Derived.Test.YthkggeohdclffaaDoorDerB
import Derived.Test.YthkggeohdclffaaDoorSlices
import Derived.Test.YthkggeohdclffaaDoorHeldR
set_option linter.unusedVariables false
set_option linter.unusedSimpArgs false
set_option maxRecDepth 100000
namespace Go.Proofs.YthkggeohdclffaaDoor
open Go.RowKit
namespace Der
structure Item where
  tag : UInt8
  body : List UInt8
  at_ : Int
  len : Nat
  err : Int
/-- No item, and why. -/
def none_ (e : Int) : Item := ⟨0, [], 0, 0, e⟩
/-- The item that stands at a place. -/
def next (b : List UInt8) (at_ : Int) : Item :=
  if at_ < 0 ∨ (b.length : Int) ≤ at_ then none_ 141
  else if nth b at_.toNat &&& 31 = 31 then none_ 142
  else if (len (b.drop (at_.toNat + 1))).2.2 ≠ 0 then none_ (len (b.drop (at_.toNat + 1))).2.2
  else if b.length - (at_.toNat + 1 + (len (b.drop (at_.toNat + 1))).2.1) < (len (b.drop (at_.toNat + 1))).1 then none_ 141
  else ⟨nth b at_.toNat, (b.drop (at_.toNat + 1 + (len (b.drop (at_.toNat + 1))).2.1)).take (len (b.drop (at_.toNat + 1))).1, at_, 1 + (len (b.drop (at_.toNat + 1))).2.1 + (len (b.drop (at_.toNat + 1))).1, 0⟩
/-- What a length has of the bytes, at most. -/
theorem len_le (b : List UInt8) (h : (len b).2.2 = 0) : (len b).2.1 ≤ b.length ∧ (len b).2.1 ≤ 3 ∧ (len b).1 ≤ 65535 ∧ 1 ≤ (len b).2.1 := by
  have k0 := n8_lt (nth b 0)
  have k1 := n8_lt (nth b 1)
  have k2 := n8_lt (nth b 2)
  unfold len at h ⊢
  by_cases c0 : b.length = 0
  · rw [if_pos c0] at h; simp at h
  rw [if_neg c0] at h ⊢
  by_cases c1 : nth b 0 < 128
  · rw [if_pos c1] at h ⊢; simp only; omega
  rw [if_neg c1] at h ⊢
  by_cases c2 : nth b 0 = 129
  · rw [if_pos c2] at h ⊢
    by_cases c3 : b.length ≤ 1
    · rw [if_pos c3] at h; simp at h
    rw [if_neg c3] at h ⊢
    by_cases c4 : n8 (nth b 1) < 128
    · rw [if_pos c4] at h; simp at h
    rw [if_neg c4] at h ⊢
    simp only; omega
  rw [if_neg c2] at h ⊢
  by_cases c5 : nth b 0 = 130
  · rw [if_pos c5] at h ⊢
    by_cases c3 : b.length ≤ 2
    · rw [if_pos c3] at h; simp at h
    rw [if_neg c3] at h ⊢
    by_cases c4 : n8 (nth b 1) * 256 + n8 (nth b 2) < 256
    · rw [if_pos c4] at h; simp at h
    rw [if_neg c4] at h ⊢
    simp only; omega
  rw [if_neg c5] at h
  simp at h
end Der
/-- An item's cells. -/
def itemCells (tag : UInt8) (v : Value) (at_ len : Int) : Array Value := #[.int .u8 ((n8 tag : Nat) : Int), v, .int .i64 at_, .int .i64 len]
theorem aggIt : AggT Tryd.prog 25 4 := ⟨by kernel_rfl, by kernel_rfl⟩
theorem zeroIt : (Tryd.prog.info? 25).bind (·.zero) = some (.agg (itemCells 0 (.slice none 0 0) 0 0)) := by kernel_rfl
theorem builtIt0 : Tryd.prog.built 25 [] = some (itemCells 0 (.slice none 0 0) 0 0) := by kernel_rfl
theorem builtIt (tag : UInt8) (A : Option Addr) (n c : Nat) (at_ len : Int) : Tryd.prog.built 25 [(0, .int .u8 ((n8 tag : Nat) : Int)), (1, .slice A n c), (2, .int .i64 at_), (3, .int .i64 len)] = some (itemCells tag (.slice A n c) at_ len) := by kernel_rfl
theorem itemOne (tag : UInt8) (A : Option Addr) (n c : Nat) (at_ len : Int) : ∀ v ∈ (itemCells tag (.slice A n c) at_ len).toList, v.oneCell' = true := by
  intro v hv
  simp [itemCells] at hv
  rcases hv with rfl | rfl | rfl | rfl <;> rfl
theorem run_store_it {w : World} {o : Oper} {ρ : Operand → Value} {x y : Operand} (ho : o.op = .store 25 x y) (g : Nat) (tag : UInt8) (A : Option Addr) (n c : Nat) (at_ len : Int) (hx : ρ x = .pointer (some ⟨g, 0, none⟩)) (hy : ρ y = .agg (itemCells tag (.slice A n c) at_ len))
    (cs : Array Value) (hb : Blk w g 25 cs) (hn : cs.size = 4) : (execOp ρ o).run Tryd.prog w = .ok .skip (w.setRow g (itemCells tag (.slice A n c) at_ len)) := by
  have h := run_storeVar_at (P := Tryd.prog) hb 0 (itemCells tag (.slice A n c) at_ len).toList (ty := 25) (by rw [aggIt.size]; rfl) (by simp [itemCells]; omega) (itemOne _ _ _ _ _ _)
  rw [splice_all cs _ (by simp [itemCells]; omega)] at h
  unfold execOp
  simp only [ho, hx, hy, Instr.storeAt, Instr.sureAddr, Sem.run_bind, Sem.run_pure, Result.andThen_ok]
  have e : (Value.agg (itemCells tag (.slice A n c) at_ len)) = .agg (itemCells tag (.slice A n c) at_ len).toList.toArray := by rw [Array.toArray_toList]
  rw [e, h, Array.toArray_toList]; rfl
theorem wpl_store_it {P : Program} {w : World} {o : Oper} {a : Act} {Q : Exit → Act → World → Prop} {ops : Array Oper} {rest : List Oper} (hP : P = Tryd.prog) (hgd : o.guard = none) (x y : Operand) (ho : o.op = .store 25 x y) (g : Nat) (tag : UInt8) (A : Option Addr) (n c : Nat) (at_ len : Int) (hx : a.eval x = .pointer (some ⟨g, 0, none⟩)) (hy : a.eval y = .agg (itemCells tag (.slice A n c) at_ len))
    (cs : Array Value) (hb : Blk w g 25 cs) (hn : cs.size = 4) (h : wpList P ops Q rest (a.put o.dst undef) (w.setRow g (itemCells tag (.slice A n c) at_ len))) : wpList P ops Q (o :: rest) a w := by
  subst hP
  refine wpList_plain hgd fun K hK => ?_
  unfold Oper.wp
  rw [run_store_it ho g tag A n c at_ len hx hy cs hb hn]
  exact hK _ _ h
/-- An item and an error. -/
theorem ret_it {P : Program} {w : World} {a : Act} {fn : Func} {p q : Tmp} {R : Ending → World → Prop} (hP : P = Tryd.prog) (h : fn.results = #[.cell p 25, .tmp q]) (g : Nat) (hp : a.tmps.getD p undef = .pointer (some ⟨g, 0, none⟩)) (u : Value) (hq : a.tmps.getD q undef = u) (tag : UInt8) (v : Value) (at_ len : Int)
    (hb : Blk w g 25 (itemCells tag v at_ len)) (hd : a.defers = []) (hR : R (.returned (.tuple #[.agg (itemCells tag v at_ len), u])) w) : bodyPost P fn R .ret a w := by
  subst hP
  refine bodyPost_ret (v := .tuple #[.agg (itemCells tag v at_ len), u]) ?_ hd hR
  have hp' : a.tmps[p]?.getD undef = .pointer (some ⟨g, 0, none⟩) := by simpa using hp
  have hq' : a.tmps[q]?.getD undef = u := by simpa using hq
  have hc : Cells w ⟨g, 0, none⟩ (itemCells tag v at_ len).toList := hb.cells
  have := run_loadVar_cells (P := Tryd.prog) (w := w) aggIt ⟨g, 0, none⟩ (itemCells tag v at_ len).toList (by simp [itemCells]) hc.is
  rw [Array.toArray_toList] at this
  simp [results, h, hp', hq', asAddr, this]
theorem op_skip {P : Program} {w w2 : World} {Q : Exit → Act → World → Prop} {ops : Array Oper} {a : Act} {o : Oper} {i : Nat} {K : Act → World → Prop} (hi : ops[i]? = some o) (hw : Region.wanted o (yielded ops a.tmps) = true) (hrun : (execOp a.eval o).run P w = .ok .skip w2) (h : K (a.put o.dst undef) w2) : wpOp P ops Q i K a w := by
  unfold wpOp
  simp only [hi]
  rw [if_pos hw]
  left
  unfold Oper.wp
  rw [hrun]
  exact h
theorem enter_clone (args : Array Value) (w : World) : (callFunc 20 args).run Tryd.prog w = .ok (.enter 20 args) w := by kernel_rfl
theorem run_build_ps2 {P : Program} {o : Oper} {ρ : Operand → Value} {t : TypeId} {parts : List (Nat × Operand)} (ho : o.op = .build t parts.toArray) (ps : List (Nat × Value)) (hp : parts.map (fun p => (p.1, ρ p.2)) = ps) {cells : Array Value} (hb : P.built t ps = some cells) (w : World) :
    (execOp ρ o).run P w = .ok (.value (.agg cells)) w := by
  have e : (parts.toArray.map fun (i, x) => (i, ρ x)).toList = ps := by rw [← hp]; simp
  unfold execOp
  simp only [ho, Sem.run_bind, run_build w t _ cells (e ▸ hb), Result.andThen_ok, Sem.run_pure]
theorem run_add_nat {P : Program} {o : Oper} {ρ : Operand → Value} {x y : Operand} {t rt : TypeId} (ho : o.op = .binOp .add t x y rt) (i j : Nat) (hx : ρ x = .int .i64 (i : Int)) (hy : ρ y = .int .i64 (j : Int)) (h : i + j < 9223372036854775808) (w : World) : (execOp ρ o).run P w = .ok (.value (.int .i64 ((i + j : Nat) : Int))) w := by
  have e : IntKind.i64.wrap ((i : Int) + (j : Int)) = ((i + j : Nat) : Int) := by rw [IntWalk.i64_in _ (by omega)]; omega
  unfold execOp
  simp only [ho, hx, hy]
  simp [go_sem]
  simpa using e
/-- What a reader of an item's bytes is told. -/
def Told (w : World) (x : Der.Item) (e : Ending) (w' : World) : Prop :=
  ∃ A c, e = .returned (.tuple #[.agg (itemCells x.tag (.slice A x.body.length c) x.at_ x.len), .int .i64 x.err]) ∧ OwnB w' w.heap.size (.slice A x.body.length c) x.body ∧ Below w.heap.size w w'
theorem Told.none {w w' : World} {e : Int} (h : Below w.heap.size w w') : Told w (Der.none_ e) (.returned (.tuple #[.agg (itemCells 0 (.slice none 0 0) 0 0), .int .i64 e])) w' :=
  ⟨Option.none, 0, rfl, OwnB.nil _ _, h⟩
theorem Told.mk {w w' : World} {x y : Der.Item} {e : Ending} (h : Told w x e w') (he : y = x) : Told w y e w' := by subst he; exact h
set_option maxHeartbeats 8000000 in
set_option maxRecDepth 100000 in
theorem next_any (A : Option Addr) (n c : Nat) (b : List UInt8) (at_ : Int) (w : World) (hr : ReadsB w w.heap.size A n b) (hc : n ≤ c) (hn : n ≤ 140737488355000) :
    Calls Tryd.prog 8 #[.slice A n c, .int .i64 at_] w (Told w (Der.next b at_)) := by
  have Hl := hd hr.len
  obtain ⟨X, HX⟩ : ∃ X, Hd (Der.next b at_ = X) := ⟨_, ⟨rfl⟩⟩
  have b0 : Blk (w.alloc (.cells (itemCells 0 (.slice none 0 0) 0 0) 25)) w.heap.size 25 (itemCells 0 (.slice none 0 0) 0 0) := Blk.nu rfl
  have hB0 : Below w.heap.size w (w.alloc (.cells (itemCells 0 (.slice none 0 0) 0 0) 25)) := (Below.refl _ _).alloc (Nat.le_refl _) _
  by_cases h1 : at_ < 0
  · have HD := hd (show Der.next b at_ = Der.none_ 141 by unfold Der.next; rw [if_pos (.inl h1)])
    rw [HD.out]
    go_enter Tryd.func8, Tryd.ntmps8
    go_wp2_with (first | (refine wpl_store_it rfl rfl _ _ rfl w.heap.size 0 none 0 0 0 0 rfl rfl _ b0 rfl ?_) | (refine wpl_build rfl 25 _ rfl [] rfl _ builtIt0 ?_) | (refine wpl_alloc rfl 25 rfl _ zeroIt ?_))
    exact ret_it rfl rfl w.heap.size rfl _ rfl 0 (.slice none 0 0) 0 0 (b0.setRow _) rfl (Told.none (below_setRow hB0 (Nat.le_refl _) _))
  · obtain ⟨k, rfl⟩ : ∃ k : Nat, at_ = (k : Int) := ⟨at_.toNat, by omega⟩
    by_cases h2 : n ≤ k
    · have HD := hd (show Der.next b k = Der.none_ 141 by unfold Der.next; rw [if_pos (.inr (by rw [Hl.out]; omega))])
      rw [HD.out]
      have t2 : (n : Int) ≤ (k : Int) := by omega
      go_enter Tryd.func8, Tryd.ntmps8
      go_wp2_with (first | (refine wpl_store_it rfl rfl _ _ rfl w.heap.size 0 none 0 0 0 0 rfl rfl _ b0 rfl ?_) | (refine wpl_build rfl 25 _ rfl [] rfl _ builtIt0 ?_) | (refine wpl_alloc rfl 25 rfl _ zeroIt ?_))
      exact ret_it rfl rfl w.heap.size rfl _ rfl 0 (.slice none 0 0) 0 0 (b0.setRow _) rfl (Told.none (below_setRow hB0 (Nat.le_refl _) _))
    · have hkn : k < n := by omega
      have t2 : ¬ (n : Int) ≤ (k : Int) := by omega
      have t3 : (k : Int) < (n : Int) := by omega
      have hno : ¬ ((k : Int) < 0 ∨ (b.length : Int) ≤ (k : Int)) := by rw [Hl.out]; omega
      obtain ⟨ad, hA, had, hc0⟩ := hr.cell hkn
      subst hA
      obtain ⟨x0, Hx0⟩ : ∃ x, Hd (nth b k = x) := ⟨_, ⟨rfl⟩⟩
      rw [Hx0.out] at hc0
      have hcA : (w.alloc (.cells (itemCells 0 (.slice none 0 0) 0 0) 25)).cell? (ad.add k) = some (.int .u8 ((n8 x0 : Nat) : Int)) := (hB0.cell (p := ad.add k) (by rw [block_of_add]; exact had)).trans hc0
      by_cases h3 : x0 &&& 31 = 31
      · have HD := hd (show Der.next b k = Der.none_ 142 by unfold Der.next; rw [if_neg hno, Int.toNat_natCast, Hx0.out, if_pos h3])
        rw [HD.out]
        have q3 : (x0 &&& 31 == 31) = true := by simpa using h3
        go_enter Tryd.func8, Tryd.ntmps8
        go_wp2_with (first | (refine wpl_store_it rfl rfl _ _ rfl w.heap.size 0 none 0 0 0 0 rfl rfl _ b0 rfl ?_) | (refine wpl_build rfl 25 _ rfl [] rfl _ builtIt0 ?_) | (refine wpl_alloc rfl 25 rfl _ zeroIt ?_))
        exact ret_it rfl rfl w.heap.size rfl _ rfl 0 (.slice none 0 0) 0 0 (b0.setRow _) rfl (Told.none (below_setRow hB0 (Nat.le_refl _) _))
      · have q3 : (x0 &&& 31 == 31) = false := by simpa using h3
        have wk1 : IntKind.i64.wrap ((k : Int) + 1) = ((k + 1 : Nat) : Int) := by rw [IntWalk.i64_in _ (by omega)]; omega
        obtain ⟨A2, HA2⟩ : ∃ x, Hd ((if c = k + 1 then some ad else (some ad).map (·.add (k + 1))) = x) := ⟨_, ⟨rfl⟩⟩
        have r2 : ReadsB w w.heap.size A2 (n - (k + 1)) (b.drop (k + 1)) := by rw [← HA2.out]; exact hr.drop (by omega) hc
        obtain ⟨b2, Hb2⟩ : ∃ x, Hd (b.drop (k + 1) = x) := ⟨_, ⟨rfl⟩⟩
        rw [Hb2.out] at r2
        obtain ⟨n2, Hn2⟩ : ∃ x, Hd (n - (k + 1) = x) := ⟨_, ⟨rfl⟩⟩
        obtain ⟨c2, Hc2⟩ : ∃ x, Hd (c - (k + 1) = x) := ⟨_, ⟨rfl⟩⟩
        rw [Hn2.out] at r2
        have HS2 := hd (fun (W : World) (ρ : Operand → Value) (o : Oper) (x y : Operand) (ho : o.op = .slice 22 x (some y) none none) (hx : ρ x = .slice (some ad) n c) (hy : ρ y = .int .i64 ((k + 1 : Nat) : Int)) => (by have h := run_slice_from (P := Tryd.prog) (w := W) ho Tryd.underlying22 u8_cell1 (some ad) n c (k + 1) hx hy (by omega) hc; rw [HA2.out, Hn2.out, Hc2.out] at h; exact h : (execOp ρ o).run Tryd.prog W = .ok (.value (.slice A2 n2 c2)) W))
        have r2A : ReadsB (w.alloc (.cells (itemCells 0 (.slice none 0 0) 0 0) 25)) (w.alloc (.cells (itemCells 0 (.slice none 0 0) 0 0) 25)).heap.size A2 n2 b2 := ⟨r2.len, (r2.is.below hB0).more hB0.size⟩
        have Hr2l := hd r2.len
        obtain ⟨N, HN⟩ : ∃ x, Hd ((Der.len b2).1 = x) := ⟨_, ⟨rfl⟩⟩
        obtain ⟨K, HK⟩ : ∃ x, Hd ((Der.len b2).2.1 = x) := ⟨_, ⟨rfl⟩⟩
        obtain ⟨E, HE⟩ : ∃ x, Hd ((Der.len b2).2.2 = x) := ⟨_, ⟨rfl⟩⟩
        have HLC := hd (length_any A2 n2 c2 b2 (w.alloc (.cells (itemCells 0 (.slice none 0 0) 0 0) 25)) r2A (by have := Hn2.out; omega))
        rw [HN.out, HK.out, HE.out] at HLC
        by_cases h4 : E = 0
        · have hle := Der.len_le b2 (by rw [HE.out]; exact h4)
          rw [HN.out, HK.out, Hr2l.out] at hle
          have Hle := hd hle
          subst h4
          have hK1 : k + 1 + K ≤ n := by have := Hn2.out; omega
          have hN1 : N ≤ 65535 := hle.2.2.1
          have hK3 : K ≤ 3 := hle.2.1
          clear hle
          have wk2 : IntKind.i64.wrap (((k + 1 : Nat) : Int) + (K : Int)) = ((k + 1 + K : Nat) : Int) := by rw [IntWalk.i64_in _ (by omega)]; omega
          obtain ⟨A3, HA3⟩ : ∃ x, Hd ((if c = k + 1 + K then some ad else (some ad).map (·.add (k + 1 + K))) = x) := ⟨_, ⟨rfl⟩⟩
          have r3 : ReadsB w w.heap.size A3 (n - (k + 1 + K)) (b.drop (k + 1 + K)) := by rw [← HA3.out]; exact hr.drop hK1 hc
          obtain ⟨b3, Hb3⟩ : ∃ x, Hd (b.drop (k + 1 + K) = x) := ⟨_, ⟨rfl⟩⟩
          obtain ⟨N3, HN3⟩ : ∃ x, Hd (n - (k + 1 + K) = x) := ⟨_, ⟨rfl⟩⟩
          obtain ⟨c3, Hc3⟩ : ∃ x, Hd (c - (k + 1 + K) = x) := ⟨_, ⟨rfl⟩⟩
          rw [Hb3.out, HN3.out] at r3
          have HS3 := hd (fun (W : World) (ρ : Operand → Value) (o : Oper) (x y : Operand) (ho : o.op = .slice 22 x (some y) none none) (hx : ρ x = .slice (some ad) n c) (hy : ρ y = .int .i64 ((k + 1 + K : Nat) : Int)) => (by have h := run_slice_from (P := Tryd.prog) (w := W) ho Tryd.underlying22 u8_cell1 (some ad) n c (k + 1 + K) hx hy hK1 hc; rw [HA3.out, HN3.out, Hc3.out] at h; exact h : (execOp ρ o).run Tryd.prog W = .ok (.value (.slice A3 N3 c3)) W))
          by_cases h5 : N3 < N
          · have HD := hd (show Der.next b k = Der.none_ 141 by unfold Der.next; rw [if_neg hno, Int.toNat_natCast, Hx0.out, if_neg h3, Hb2.out, HE.out, HK.out, HN.out, if_neg (by simp), Hl.out, HN3.out, if_pos h5])
            rw [HD.out]
            have t5 : (N3 : Int) < (N : Int) := by omega
            go_enter Tryd.func8, Tryd.ntmps8
            go_wp2_with (first | (refine wpl_store_it rfl rfl _ _ rfl w.heap.size 0 none 0 0 0 0 rfl rfl _ b0 rfl ?_) | (refine wpl_build rfl 25 _ rfl [] rfl _ builtIt0 ?_) | (refine wpl_run (o := ⟨some 46, _, _, _, _, _⟩) (by simp [Region.wanted, yielded, Act.put]) _ (HS3.out _ _ _ _ _ (by rfl) (by simp [Act.eval, Act.put]) (by simp [Act.eval, Act.put])) ?_) | (go_at_call 19; refine HLC.out.mono ?_; rintro e w1 ⟨rfl, rfl⟩) | (refine wpl_run (o := ⟨some 32, _, _, _, _, _⟩) (by simp [Region.wanted, yielded, Act.put]) _ (HS2.out _ _ _ _ _ (by rfl) (by simp [Act.eval, Act.put]) (by simp [Act.eval, Act.put])) ?_) | (refine wpl_alloc rfl 25 rfl _ zeroIt ?_))
            exact ret_it rfl rfl w.heap.size rfl _ rfl 0 (.slice none 0 0) 0 0 (b0.setRow _) rfl (Told.none (below_setRow hB0 (Nat.le_refl _) _))
          · have t5 : ¬ (N3 : Int) < (N : Int) := by omega
            have hN3 : N ≤ N3 := by omega
            have hc3 : N ≤ c3 := by have := HN3.out; have := Hc3.out; omega
            obtain ⟨BD, HBD⟩ : ∃ x, Hd (b3.take N = x) := ⟨_, ⟨rfl⟩⟩
            have r3N : ReadsB w w.heap.size A3 N BD := by rw [← HBD.out]; exact r3.take hN3
            have HBl := hd r3N.len
            have HD := hd (show Der.next b k = ⟨x0, BD, k, 1 + K + N, 0⟩ by unfold Der.next; rw [if_neg hno, Int.toNat_natCast, Hx0.out, if_neg h3, Hb2.out, HE.out, HK.out, HN.out, if_neg (by simp), Hl.out, HN3.out, if_neg h5, Hb3.out, HBD.out])
            rw [HD.out]
            have wk5 : IntKind.i64.wrap (1 + (K : Int)) = ((1 + K : Nat) : Int) := by rw [IntWalk.i64_in _ (by omega)]; omega
            have wk6 : IntKind.i64.wrap (((1 + K : Nat) : Int) + (N : Int)) = ((1 + K + N : Nat) : Int) := by rw [IntWalk.i64_in _ (by omega)]; omega
            go_enter Tryd.func8, Tryd.ntmps8
            go_upto_region 11 with (first | (refine wpl_run (o := ⟨some 46, _, _, _, _, _⟩) (by simp [Region.wanted, yielded, Act.put]) _ (HS3.out _ _ _ _ _ (by rfl) (by simp [Act.eval, Act.put]) (by simp [Act.eval, Act.put])) ?_) | (go_at_call 19; refine HLC.out.mono ?_; rintro e w1 ⟨rfl, rfl⟩) | (refine wpl_run (o := ⟨some 32, _, _, _, _, _⟩) (by simp [Region.wanted, yielded, Act.put]) _ (HS2.out _ _ _ _ _ (by rfl) (by simp [Act.eval, Act.put]) (by simp [Act.eval, Act.put])) ?_) | (refine wpl_alloc rfl 25 rfl _ zeroIt ?_))
            refine v_start PR ((fun W => Below w.heap.size w W), (fun W => Blk W w.heap.size 25 (itemCells 0 (.slice none 0 0) 0 0))) (by kernel_rfl) (show PW _ (World.drew (w.alloc (.cells (itemCells 0 (.slice none 0 0) 0 0) 25))) from ⟨hB0.drew, b0.drew⟩) ?_
            refine p_take 0 (o := _) rfl (by kernel_rfl) (by kernel_rfl) (by kernel_rfl) (wanted_plain rfl) (.slice (some ad) n c) (fun _ _ _ h => h) (fun W hW => run_move (by rfl) (by simp [Act.eval]) W) ?_
            simp only [Act.put, List.getElem_toArray, List.getElem_cons_succ, List.getElem_cons_zero, List.setIfInBounds_toArray, List.set_cons_zero, List.set_cons_succ]
            refine p_take 1 (o := _) rfl (by kernel_rfl) (by kernel_rfl) (by kernel_rfl) (wanted_plain rfl) (.int .i64 (k : Int)) (fun _ _ _ h => h) (fun W hW => run_move (by rfl) (by simp [Act.eval]) W) ?_
            simp only [Act.put, List.getElem_toArray, List.getElem_cons_succ, List.getElem_cons_zero, List.setIfInBounds_toArray, List.set_cons_zero, List.set_cons_succ]
            refine p_take 2 (o := _) rfl (by kernel_rfl) (by kernel_rfl) (by kernel_rfl) (wanted_plain rfl) (.pointer (some (ad.add k))) (fun _ _ _ h => h) (fun W hW => by go_simp) ?_
            simp only [Act.put, List.getElem_toArray, List.getElem_cons_succ, List.getElem_cons_zero, List.setIfInBounds_toArray, List.set_cons_zero, List.set_cons_succ]
            refine p_take 3 (o := _) rfl (by kernel_rfl) (by kernel_rfl) (by kernel_rfl) (wanted_plain rfl) (.int .u8 ((n8 x0 : Nat) : Int)) (fun _ _ _ h => h) (fun W hW => by have h1 := (hW.cell (p := ad.add k) (by rw [block_of_add]; exact had)).trans hc0; go_simp) ?_
            simp only [Act.put, List.getElem_toArray, List.getElem_cons_succ, List.getElem_cons_zero, List.setIfInBounds_toArray, List.set_cons_zero, List.set_cons_succ]
            refine p_take 4 (o := _) rfl (by kernel_rfl) (by kernel_rfl) (by kernel_rfl) (wanted_plain rfl) (.slice A3 N3 c3) (fun _ _ _ h => h) (fun W hW => run_move (by rfl) (by simp [Act.eval]) W) ?_
            simp only [Act.put, List.getElem_toArray, List.getElem_cons_succ, List.getElem_cons_zero, List.setIfInBounds_toArray, List.set_cons_zero, List.set_cons_succ]
            refine p_take 5 (o := _) rfl (by kernel_rfl) (by kernel_rfl) (by kernel_rfl) (wanted_plain rfl) (.int .i64 (N : Int)) (fun _ _ _ h => h) (fun W hW => run_move (by rfl) (by simp [Act.eval]) W) ?_
            simp only [Act.put, List.getElem_toArray, List.getElem_cons_succ, List.getElem_cons_zero, List.setIfInBounds_toArray, List.set_cons_zero, List.set_cons_succ]
            refine p_take 6 (o := _) rfl (by kernel_rfl) (by kernel_rfl) (by kernel_rfl) (wanted_plain rfl) (.slice A3 N c3) (fun _ _ _ h => h) (fun W hW => run_slice_to (by rfl) Tryd.underlying22 u8_cell1 A3 N3 c3 N (by simp [Act.eval]) (by simp [Act.eval]) (by omega)) ?_
            simp only [Act.put, List.getElem_toArray, List.getElem_cons_succ, List.getElem_cons_zero, List.setIfInBounds_toArray, List.set_cons_zero, List.set_cons_succ]
            refine p_take 8 (o := _) rfl (by kernel_rfl) (by kernel_rfl) (by kernel_rfl) (wanted_plain rfl) (.int .i64 (k : Int)) (fun _ _ _ h => h) (fun W hW => run_move (by rfl) (by simp [Act.eval]) W) ?_
            simp only [Act.put, List.getElem_toArray, List.getElem_cons_succ, List.getElem_cons_zero, List.setIfInBounds_toArray, List.set_cons_zero, List.set_cons_succ]
            refine p_take 9 (o := _) rfl (by kernel_rfl) (by kernel_rfl) (by kernel_rfl) (wanted_plain rfl) (.int .i64 (K : Int)) (fun _ _ _ h => h) (fun W hW => run_move (by rfl) (by simp [Act.eval]) W) ?_
            simp only [Act.put, List.getElem_toArray, List.getElem_cons_succ, List.getElem_cons_zero, List.setIfInBounds_toArray, List.set_cons_zero, List.set_cons_succ]
            refine p_take 10 (o := _) rfl (by kernel_rfl) (by kernel_rfl) (by kernel_rfl) (wanted_plain rfl) (.int .i64 ((1 + K : Nat) : Int)) (fun _ _ _ h => h) (fun W hW => run_add_nat (by rfl) 1 K (by simp [Act.eval]) (by simp [Act.eval]) (by omega) W) ?_
            simp only [Act.put, List.getElem_toArray, List.getElem_cons_succ, List.getElem_cons_zero, List.setIfInBounds_toArray, List.set_cons_zero, List.set_cons_succ]
            refine p_take 11 (o := _) rfl (by kernel_rfl) (by kernel_rfl) (by kernel_rfl) (wanted_plain rfl) (.int .i64 (N : Int)) (fun _ _ _ h => h) (fun W hW => run_move (by rfl) (by simp [Act.eval]) W) ?_
            simp only [Act.put, List.getElem_toArray, List.getElem_cons_succ, List.getElem_cons_zero, List.setIfInBounds_toArray, List.set_cons_zero, List.set_cons_succ]
            refine p_take 12 (o := _) rfl (by kernel_rfl) (by kernel_rfl) (by kernel_rfl) (wanted_plain rfl) (.int .i64 ((1 + K + N : Nat) : Int)) (fun _ _ _ h => h) (fun W hW => run_add_nat (by rfl) (1 + K) N (by simp [Act.eval]) (by simp [Act.eval]) (by omega) W) ?_
            simp only [Act.put, List.getElem_toArray, List.getElem_cons_succ, List.getElem_cons_zero, List.setIfInBounds_toArray, List.set_cons_zero, List.set_cons_succ]
            refine p_one 7 (by kernel_rfl) (fun W hW hX => ?_)
            refine op_call (o := _) rfl (wanted_plain rfl) 20 _ _ rfl #[.slice A3 N c3] (by simp [Act.eval]) (enter_clone _) ?_
            refine (clone_bytes A3 N c3 BD W ⟨r3N.len, (r3N.is.below hW).more hW.size⟩ (by omega)).mono ?_
            rintro e W' ⟨v, rfl, own, hE⟩
            obtain ⟨Ab, cb, e1⟩ := own.slice
            rw [HBl.out] at e1
            subst e1
            refine ⟨_, rfl, Next.mk (fun W => Below w.heap.size w W ∧ OwnB W w.heap.size (.slice Ab N cb) BD) (fun W => Blk W w.heap.size 25 (itemCells 0 (.slice none 0 0) 0 0)) (fun _ h => h.1) ⟨hW.trans (hE.mono hW.size), own.low hW.size⟩ (hX.below hE hX.lt) ?_⟩
            clear own hE hW hX
            simp only [Act.put, List.getElem_toArray, List.getElem_cons_succ, List.getElem_cons_zero, List.setIfInBounds_toArray, List.set_cons_zero, List.set_cons_succ]
            refine p_take 13 (o := _) rfl (by kernel_rfl) (by kernel_rfl) (by kernel_rfl) (wanted_plain rfl) (.agg (itemCells x0 (.slice Ab N cb) k ((1 + K + N : Nat) : Int))) (fun _ _ _ h => h) (fun W hW => run_build_ps2 (parts := [(0, .tmp 55), (1, .tmp 59), (2, .tmp 60), (3, .tmp 64)]) (by rfl) [(0, .int .u8 ((n8 x0 : Nat) : Int)), (1, .slice Ab N cb), (2, .int .i64 (k : Int)), (3, .int .i64 ((1 + K + N : Nat) : Int))] (by simp [Act.eval]) (builtIt _ _ _ _ _ _) W) ?_
            simp only [Act.put, List.getElem_toArray, List.getElem_cons_succ, List.getElem_cons_zero, List.setIfInBounds_toArray, List.set_cons_zero, List.set_cons_succ]
            refine p_one 14 (by kernel_rfl) (fun W hW hX => ?_)
            refine op_skip (o := _) rfl (wanted_plain rfl) (run_store_it (by rfl) w.heap.size x0 Ab N cb k ((1 + K + N : Nat) : Int) (by simp [Act.eval]) (by simp [Act.eval]) _ hX rfl) ?_
            have hg := grew_setRow (World.grownBy.refl W (some w.heap.size)) (itemCells x0 (.slice Ab N cb) k ((1 + K + N : Nat) : Int))
            have hne := own_blk_ne hW.2.own hX (by decide)
            refine Next.mk (fun W => Below w.heap.size w W ∧ OwnB W w.heap.size (.slice Ab N cb) BD) (fun W => Blk W w.heap.size 25 (itemCells x0 (.slice Ab N cb) k ((1 + K + N : Nat) : Int))) (fun _ h => h) ⟨below_setRow hW.1 (Nat.le_refl _) _, hW.2.moved hg hne⟩ (hX.setRow _) ?_
            clear hW hX hg hne
            simp only [Act.put, List.getElem_toArray, List.getElem_cons_succ, List.getElem_cons_zero, List.setIfInBounds_toArray, List.set_cons_zero, List.set_cons_succ]
            refine p_take 15 (o := _) rfl (by kernel_rfl) (by kernel_rfl) (by kernel_rfl) (wanted_plain rfl) (.int .i64 0) (fun _ _ _ h => h) (fun W hW => run_assign (by rfl) (by simp [Act.eval]) W) ?_
            simp only [Act.put, List.getElem_toArray, List.getElem_cons_succ, List.getElem_cons_zero, List.setIfInBounds_toArray, List.set_cons_zero, List.set_cons_succ]
            refine (show ∀ n, wpAnyV _ _ _ _ _ _ n _ _ _ from fun n => v_done (by kernel_rfl) (fun W hW => ?_) n) _
            go_wp2
            exact ret_it rfl rfl w.heap.size rfl (.int .i64 0) rfl x0 (.slice Ab N cb) k ((1 + K + N : Nat) : Int) hW.2 rfl ⟨Ab, cb, by rw [HBl.out], by rw [HBl.out]; exact hW.1.2, hW.1.1⟩
        · have HD := hd (show Der.next b k = Der.none_ E by unfold Der.next; rw [if_neg hno, Int.toNat_natCast, Hx0.out, if_neg h3, Hb2.out, HE.out, if_pos h4])
          rw [HD.out]
          have q4 : ¬ E = 0 := h4
          go_enter Tryd.func8, Tryd.ntmps8
          go_wp2_with (first | (refine wpl_store_it rfl rfl _ _ rfl w.heap.size 0 none 0 0 0 0 rfl rfl _ b0 rfl ?_) | (refine wpl_build rfl 25 _ rfl [] rfl _ builtIt0 ?_) | (go_at_call 19; refine HLC.out.mono ?_; rintro e w1 ⟨rfl, rfl⟩) | (refine wpl_run (o := ⟨some 32, _, _, _, _, _⟩) (by simp [Region.wanted, yielded, Act.put]) _ (HS2.out _ _ _ _ _ (by rfl) (by simp [Act.eval, Act.put]) (by simp [Act.eval, Act.put])) ?_) | (refine wpl_alloc rfl 25 rfl _ zeroIt ?_))
          exact ret_it rfl rfl w.heap.size rfl _ rfl 0 (.slice none 0 0) 0 0 (b0.setRow _) rfl (Told.none (below_setRow hB0 (Nat.le_refl _) _))
end Go.Proofs.YthkggeohdclffaaDoor
