/-
  Bytes put behind bytes that came in: an append that never writes into the first's own row.
-/
import Derived.Test.YtbcboldepghgpaaGreatDoorShaC
import Derived.BigRegion
set_option linter.unusedVariables false
set_option linter.unusedSimpArgs false
set_option maxRecDepth 100000
namespace Go.Proofs.YtbcboldepghgpaaGreatDoor
open Go.RowKit
section
variable {w : World} {B B' : Nat} {A D : Option Addr} {n m c : Nat} {l t : List UInt8}
theorem run_appendNone (ty : TypeId) (hr : ReadsB w B A n l) (c : Nat) (hA : A = none → n = 0) : (Builtin.append_ #[25, 25] ty #[.slice A n n, .slice D 0 c]).run Tryz.prog w = .ok (.slice A n n) w := by
  obtain ⟨i0, hi0, hz0, hz1, hz2⟩ := info_parts u8_info
  cases A with
  | none =>
    have := hA rfl
    subst this
    cases D <;> simp [Builtin.append_, run_underlying Tryz.underlying25, sizeOf, typeInfo, hi0, Builtin.lenOf, Builtin.firstCells, storeCells, loadCells, loadCellsFrom]
  | some b => cases D <;> simp [Builtin.append_, run_underlying Tryz.underlying25, sizeOf, typeInfo, hi0, Builtin.lenOf, Builtin.firstCells, storeCells, loadCells, loadCellsFrom]
theorem run_appendR {o : Oper} {ρ : Operand → Value} {s x : Operand} (ho : o.op = .call { callee := .builtin .append, args := #[s, x], argTypes := #[25, 25] })
    (hs : ρ s = .slice A n n) (hx : ρ x = .slice D m c) (hr : ReadsB w B A n l) (hA : A = none → n = 0) (ht : ReadsB w B' D m t) (hlen : n + m ≤ 140737488355328) (hB : B ≤ w.heap.size) :
    ∃ A' c' w', (execOp ρ o).run Tryz.prog w = .ok (.value (.slice A' (n + m) c')) w' ∧ ReadsB w' w'.heap.size A' (n + m) (l ++ t) ∧ n + m ≤ c' ∧ (A' = none → n + m = 0) ∧ w.grownBy w' none ∧ (∀ b, A' = some b → (A = some b ∧ m = 0) ∨ w.heap.size ≤ b.block) := by
  have hrun : ∀ v' w', (Builtin.append_ #[25, 25] o.type #[.slice A n n, .slice D m c]).run Tryz.prog w = .ok v' w' → (execOp ρ o).run Tryz.prog w = .ok (.value v') w' := fun v' w' h => by
    unfold execOp
    simp only [ho, resolve, invoke, builtin, Sem.run_bind, Sem.run_pure, Result.andThen_ok, List.map_toArray, List.map_cons, List.map_nil, hs, hx, h]
  rcases Nat.eq_zero_or_pos m with h0 | h0
  · subst h0
    have ht0 : t = [] := List.eq_nil_of_length_eq_zero ht.len
    subst ht0
    refine ⟨A, n, w, hrun _ _ (run_appendNone o.type hr c hA), ?_, by omega, hA, World.grownBy.refl w _, fun b hb => .inl ⟨hb, rfl⟩⟩
    rw [List.append_nil]
    exact ⟨hr.len, hr.is.more hB⟩
  · obtain ⟨i0, hi0, hz0, hz1, hz2⟩ := info_parts u8_info
    obtain ⟨ad, hD, _, hc⟩ := ht.is.2 h0
    subst hD
    have hfin : ∀ v' w', OwnB w' w.heap.size v' (l ++ t) → ∃ A' c', v' = .slice A' (n + m) c' ∧ ReadsB w' w'.heap.size A' (n + m) (l ++ t) ∧ n + m ≤ c' ∧ (A' = none → n + m = 0) ∧ (∀ b, A' = some b → w.heap.size ≤ b.block) := fun v' w' h => by
      have hln : (l ++ t).length = n + m := by rw [List.length_append, hr.len, ht.len]
      obtain ⟨g, cap, e, hge, _, hcap⟩ := h.form (by rw [hln]; omega)
      subst e
      have h2 := h.reads_any.2
      rw [hln] at h2 hcap ⊢
      exact ⟨_, cap, rfl, h2, hcap, (fun e => by cases e), (fun b hb => by injection hb with hb; subst hb; exact hge)⟩
    cases A with
    | none =>
      have hn := hA rfl
      subst hn
      have hl : l = [] := List.eq_nil_of_length_eq_zero hr.len
      subst hl
      have hm := ht.len
      obtain ⟨v', w', h1, h2, h3, _⟩ := run_append_any (P := Tryz.prog) (w := w) w.heap.size 25 o.type 5 i0 _ 1 1 Tryz.underlying25 hi0 hz0 hz1 hz2 rfl (by omega) (.slice none 0 0) 0 [] (OwnB.nil w w.heap.size).own B' (some ad) m c (t.map U8) ht.is (by intro u hu; obtain ⟨x, _, rfl⟩ := List.mem_map.1 hu; rfl) (by unfold maxLen; omega) (by omega) (Nat.le_refl _)
      obtain ⟨A', c', e, h4, h5, h6, h7⟩ := hfin v' w' ⟨by rw [List.nil_append, hm]; rw [Nat.zero_add] at h2; exact h2⟩
      subst e
      exact ⟨A', c', w', hrun _ _ h1, h4, h5, h6, h3, fun b hb => .inr (h7 b hb)⟩
    | some b =>
      have hb : ∀ j u, (l.map U8)[j]? = some u → w.cell? (b.add j) = some u := fun j u hu => by
        rcases Nat.eq_zero_or_pos n with h | h
        · have hl : l = [] := List.eq_nil_of_length_eq_zero (by rw [hr.len, h])
          subst hl; simp at hu
        · obtain ⟨b', e, _, hc2⟩ := hr.is.2 h
          injection e with e
          subst e
          exact hc2 j u hu
      obtain ⟨v', w', h1, h2, h3⟩ := run_append_arg_grows (P := Tryz.prog) (w := w) 25 o.type 5 i0 _ 1 1 Tryz.underlying25 hi0 hz0 hz1 hz2 rfl (by omega) b n n (l.map U8) (by simp [hr.len]) hb ad m c (t.map U8) (by simp [ht.len]) hc (by omega) (by unfold maxLen; omega) (by omega)
      obtain ⟨A', c', e, h4, h5, h6, h7⟩ := hfin v' w' ⟨by rw [List.length_append, hr.len, ht.len, List.map_append]; exact h2⟩
      subst e
      exact ⟨A', c', w', hrun _ _ h1, h4, h5, h6, h3, fun b hb => .inr (h7 b hb)⟩
theorem step_appendR {ops : Array Oper} {o : Oper} {a : Act} {K : Act → World → Prop} {Q : Exit → Act → World → Prop} {E : Prop} (hgd : o.guard = none) (s x : Operand) (ho : o.op = .call { callee := .builtin .append, args := #[s, x], argTypes := #[25, 25] })
    (hs : a.eval s = .slice A n n) (hx : a.eval x = .slice D m c) (hr : ReadsB w B A n l) (hA : A = none → n = 0) (ht : ReadsB w B' D m t) (hlen : n + m ≤ 140737488355328) (hB : B ≤ w.heap.size)
    (h : ∀ A' c' w', ReadsB w' w'.heap.size A' (n + m) (l ++ t) → n + m ≤ c' → (A' = none → n + m = 0) → w.grownBy w' none → (∀ b, A' = some b → (A = some b ∧ m = 0) ∨ w.heap.size ≤ b.block) → K (a.put o.dst (.slice A' (n + m) c')) w') : if Region.wanted o (yielded ops a.tmps) = true then Oper.wp Tryz.prog o a w K Q else E := by
  have hw : Region.wanted o (yielded ops a.tmps) = true := by simp [Region.wanted, hgd]
  rw [if_pos hw]
  obtain ⟨A', c', w', hrun, h1, h2, h3, h4, h5⟩ := run_appendR (ρ := a.eval) ho hs hx hr hA ht hlen hB
  unfold Oper.wp
  rw [hrun]
  exact h A' c' w' h1 h2 h3 h4 h5
theorem wpl_appendR {ops : Array Oper} {rest : List Oper} {o : Oper} {a : Act} {Q : Exit → Act → World → Prop} (hgd : o.guard = none) (s x : Operand) (ho : o.op = .call { callee := .builtin .append, args := #[s, x], argTypes := #[25, 25] })
    (hs : a.eval s = .slice A n n) (hx : a.eval x = .slice D m c) (hr : ReadsB w B A n l) (hA : A = none → n = 0) (ht : ReadsB w B' D m t) (hlen : n + m ≤ 140737488355328) (hB : B ≤ w.heap.size)
    (h : ∀ A' c' w', ReadsB w' w'.heap.size A' (n + m) (l ++ t) → n + m ≤ c' → (A' = none → n + m = 0) → w.grownBy w' none → (∀ b, A' = some b → (A = some b ∧ m = 0) ∨ w.heap.size ≤ b.block) → wpList Tryz.prog ops Q rest (a.put o.dst (.slice A' (n + m) c')) w') : wpList Tryz.prog ops Q (o :: rest) a w := by
  obtain ⟨A', c', w', hrun, h1, h2, h3, h4, h5⟩ := run_appendR (ρ := a.eval) ho hs hx hr hA ht hlen hB
  exact wpList_plain hgd fun K hK => by
    unfold Oper.wp
    rw [hrun]
    exact hK _ _ (h A' c' w' h1 h2 h3 h4 h5)
end
end Go.Proofs.YtbcboldepghgpaaGreatDoor
