/-
  As HeldU, with a word g for what has been laid or written so far: an operation that keeps S g, whatever g, is taken first; one that lays or writes is taken where it alone may come up, or in each order.
-/
import Derived.Test.YthkggeohdclffaaDoorHeldU
set_option linter.unusedVariables false
set_option linter.unusedSimpArgs false
set_option maxRecDepth 100000
namespace Go.Proofs.YthkggeohdclffaaDoor
open Go.RowKit
section
variable {P : Program} {ops : Array Oper} {Q : Exit → Act → World → Prop} {md : Region.Mode} {γ : Type} {S : γ → World → Prop} {R : γ → γ → Prop}
/-- As Gives, for every word g that may follow g0. -/
def GivesV (P : Program) (ops : Array Oper) {γ : Type} (S : γ → World → Prop) (R : γ → γ → Prop) (g0 : γ) (o : Oper) (v : Value) (a : Act) : Prop :=
  (Region.wanted o (yielded ops a.tmps) = true ∧ ∀ g, R g0 g → ∀ w, S g w → GivesR P (S g) v ((execOp a.eval o).run P w)) ∨ (Region.wanted o (yielded ops a.tmps) = false ∧ v = undef)
theorem GivesV.wpOp {i : Nat} {o : Oper} {v : Value} {a : Act} {g0 : γ} (hi : ops[i]? = some o) (hy : GivesV P ops S R g0 o v a) {K : Act → World → Prop} {g : γ} {w : World} (hg : R g0 g) (hS : S g w) (hK : ∀ w, S g w → K (a.put o.dst v) w) : wpOp P ops Q i K a w := by
  unfold Go.wpOp
  simp only [hi]
  rcases hy with ⟨hw, hv⟩ | ⟨hw, rfl⟩
  · rw [if_pos hw]; exact .inl ((hv g hg w hS).upon hK)
  · rw [if_neg (by rw [hw]; exact Bool.false_ne_true)]; exact hK w hS
theorem GivesV.same {o : Oper} {v : Value} {a a' : Act} {g0 : γ} (hy : GivesV P ops S R g0 o v a) (he : execOp a'.eval o = execOp a.eval o) (hw : Region.wanted o (yielded ops a'.tmps) = Region.wanted o (yielded ops a.tmps)) : GivesV P ops S R g0 o v a' := by
  unfold GivesV at *
  rw [he, hw]; exact hy
theorem GivesV.after {o : Oper} {v : Value} {a : Act} {g0 g1 : γ} (tr : ∀ x y z, R x y → R y z → R x z) (hy : GivesV P ops S R g0 o v a) (h : R g0 g1) : GivesV P ops S R g1 o v a :=
  hy.imp (fun ⟨hw, hv⟩ => ⟨hw, fun g hg w hS => hv g (tr _ _ _ h hg) w hS⟩) id
theorem wpOp_apartV {g0 : γ} {j : Nat} {oi oj : Oper} {v : Value} (hj : ops[j]? = some oj) (hap : oi.apart ops oj = true) (hsi : ∀ cs b, oi.op ≠ .select cs b) (hsj : ∀ cs b, oj.op ≠ .select cs b)
    (hQ : ∀ c a w, Q (.panic c) (a.put oi.dst v) w → Q (.panic c) a w) {K : Act → World → Prop} {a : Act} {w : World} (hy : GivesV P ops S R g0 oi v a) (h : wpOp P ops Q j K (a.put oi.dst v) w) :
    wpOp P ops Q j (fun a' w' => GivesV P ops S R g0 oi v a' ∧ K (a'.put oi.dst v) w') a w := by
  obtain ⟨h1, h2, h3⟩ := Oper.apart_spec hap
  have stay : ∀ (b : Act), GivesV P ops S R g0 oi v b → ∀ u, GivesV P ops S R g0 oi v (b.put oj.dst u) := fun b hb u => hb.same (execOp_put oi hsi b oj.dst u h3) (wanted_put oi b oj.dst u h3)
  unfold wpOp at h ⊢
  simp only [hj] at h ⊢
  rw [wanted_put oj a oi.dst v h1] at h
  by_cases hw : Region.wanted oj (yielded ops a.tmps) = true
  · rw [if_pos hw] at h ⊢
    rcases h with h | ⟨hasks, hlets⟩
    · left
      unfold Oper.wp at h ⊢
      rw [execOp_put oj hsj a oi.dst v h1] at h
      revert h
      generalize (execOp a.eval oj).run P w = r
      intro h
      cases r with
      | halt x w' =>
        cases x <;> simp only [Oper.upon] at h ⊢
        exact hQ _ _ _ h
      | ok n w' =>
        cases n <;> simp only [Oper.upon] at h ⊢
        case value u => exact ⟨stay a hy u, by rw [← Act.put_comm a v u h2]; exact h⟩
        case skip => exact ⟨stay a hy _, by rw [← Act.put_comm a v undef h2]; exact h⟩
        case defer d =>
          refine ⟨stay { a with defers := d :: a.defers } (hy.same rfl rfl) undef, ?_⟩
          rw [← Act.put_comm _ v undef h2, ← Act.put_defers]; exact h
        case enter f args =>
          refine Calls.mono h fun e w'' he => ?_
          cases e with
          | returned u => exact ⟨stay a hy u, by rw [← Act.put_comm a v u h2]; exact he⟩
          | panicked c => exact hQ _ _ _ he
          | outgrown => exact he
        case row row args => exact Rows.mono h fun u w'' he => ⟨stay a hy u, by rw [← Act.put_comm a v u h2]; exact he⟩
    · right
      refine ⟨?_, hlets⟩
      unfold Oper.asks at *
      rw [execOp_put oj hsj a oi.dst v h1] at hasks
      exact hasks
  · rw [if_neg hw] at h ⊢
    exact ⟨stay a hy _, by rw [← Act.put_comm a v undef h2]; exact h⟩
/-- Whatever order is drawn, in whatever world that meets S g. -/
def wpAnyV (P : Program) (md : Region.Mode) (ops : Array Oper) (Q : Exit → Act → World → Prop) {γ : Type} (S : γ → World → Prop) (R : γ → γ → Prop) : Nat → Array Bool → Act → γ → Prop
  | 0, listed, a, g => Region.ready md ops listed = [] ∧ ∀ w, S g w → Q .normal a w
  | n + 1, listed, a, g => (Region.ready md ops listed = [] → ∀ w, S g w → Q .normal a w) ∧
    ∀ i ∈ Region.ready md ops listed, ∀ w, S g w → wpOp P ops Q i (fun a' w' => ∃ g', R g g' ∧ S g' w' ∧ wpAnyV P md ops Q S R n (listed.setIfInBounds i true) a' g') a w
theorem wpAny_of_v : ∀ (n : Nat) (listed : Array Bool) (a : Act) (g : γ), wpAnyV P md ops Q S R n listed a g → ∀ w, S g w → wpAny P md ops Q n listed a w
  | 0, _, _, _, h, w, hS => ⟨h.1, h.2 w hS⟩
  | n + 1, listed, a, g, h, w, hS => ⟨fun h0 => h.1 h0 w hS, fun i hi => wpOp_mono (fun a' w' ⟨g', _, h1, h2⟩ => wpAny_of_v n _ a' g' h2 w' h1) (h.2 i hi w hS)⟩
theorem wpAnyV_first (rf : ∀ g, R g g) (tr : ∀ x y z, R x y → R y z → R x z) {i : Nat} {oi : Oper} {v : Value} (hi : ops[i]? = some oi) (hsel : ∀ (j : Nat) (o : Oper) cs b, ops[j]? = some o → o.op ≠ .select cs b) (hQ : ∀ c a w, Q (.panic c) (a.put oi.dst v) w → Q (.panic c) a w) :
    ∀ (n : Nat) (listed : Array Bool) (a : Act) (g : γ), (∀ j oj, ops[j]? = some oj → j ≠ i → listed.getD j true = false → (∀ e ∈ oj.after, Region.binds md e = true → e.on ≠ i) → oi.apart ops oj = true) →
      i ∈ Region.ready md ops listed → GivesV P ops S R g oi v a → wpAnyV P md ops Q S R n (listed.setIfInBounds i true) (a.put oi.dst v) g → wpAnyV P md ops Q S R (n + 1) listed a g := by
  intro n
  induction n with
  | zero =>
    intro listed a g _ hr hy H
    refine ⟨fun h => (by rw [h] at hr; cases hr), fun j hj w hS => ?_⟩
    by_cases hji : j = i
    · subst hji; exact hy.wpOp hi (rf g) hS fun w' hS' => ⟨g, rf g, hS', H⟩
    · have h0 := ready_mono hj hji
      rw [H.1] at h0; cases h0
  | succ n ih =>
    intro listed a g hfree hr hy H
    refine ⟨fun h => (by rw [h] at hr; cases hr), fun j hj w hS => ?_⟩
    by_cases hji : j = i
    · subst hji; exact hy.wpOp hi (rf g) hS fun w' hS' => ⟨g, rf g, hS', H⟩
    · obtain ⟨hjun, oj, hoj, hall⟩ := mem_ready.1 hj
      have hwait : ∀ e ∈ oj.after, Region.binds md e = true → e.on ≠ i := by
        intro e he hb heq
        have h1 := hall e he hb
        have h0 := (mem_ready.1 hr).1
        rw [heq] at h1
        rcases Nat.lt_or_ge i listed.size with h' | h'
        · simp [h'] at h0 h1; rw [h0] at h1; cases h1
        · simp [Array.getElem?_eq_none h'] at h1
      have h2 := wpOp_apartV hoj (hfree j oj hoj hji hjun hwait) (fun cs b => hsel i oi cs b hi) (fun cs b => hsel j oj cs b hoj) hQ hy (H.2 j (ready_mono hj hji) w hS)
      have hfree2 : ∀ k ok, ops[k]? = some ok → k ≠ i → (listed.setIfInBounds j true).getD k true = false → (∀ e ∈ ok.after, Region.binds md e = true → e.on ≠ i) → oi.apart ops ok = true := by
        intro k ok hk hki hun hno
        refine hfree k ok hk hki ?_ hno
        by_cases hjk : j = k
        · subst hjk; exact hjun
        · rw [getD_set_ne true hjk] at hun; exact hun
      refine wpOp_mono (fun a' w' ⟨h3, g', h6, h4, h5⟩ => ⟨g', h6, h4, ih (listed.setIfInBounds j true) a' g' hfree2 (ready_mono hr (Ne.symm hji)) (h3.after tr h6) ?_⟩) h2
      rw [Array.setIfInBounds_comm _ _ hji]
      exact h5
variable {i : Nat} {o : Oper} {fuel : Nat} {listed : Array Bool} {a : Act} {w : World} {g : γ}
theorem v_take (rf : ∀ g, R g g) (tr : ∀ x y z, R x y → R y z → R x z) (i : Nat) (hi : ops[i]? = some o) (hs : Region.noSelect ops = true) (hf : Region.free md ops listed i = true) (hr : (Region.ready md ops listed).contains i = true) (v : Value) (hQ : ∀ c a w, Q (.panic c) (a.put o.dst v) w → Q (.panic c) a w)
    (hy : GivesV P ops S R g o v a) (h : wpAnyV P md ops Q S R fuel (listed.setIfInBounds i true) (a.put o.dst v) g) : wpAnyV P md ops Q S R (fuel + 1) listed a g :=
  wpAnyV_first rf tr hi (Region.noSelect_spec hs) hQ fuel listed a g (Region.free_spec hi hf) (by simpa using hr) hy h
/-- One step of an operation that lays or writes: what it gives, and the world behind it. -/
def StepV (P : Program) (md : Region.Mode) (ops : Array Oper) (Q : Exit → Act → World → Prop) (S : γ → World → Prop) (R : γ → γ → Prop) (fuel : Nat) (listed : Array Bool) (a : Act) (g : γ) (w : World) (i : Nat) : Prop :=
  ∃ o, ops[i]? = some o ∧ Region.wanted o (yielded ops a.tmps) = true ∧ ((∃ v w' g', (execOp a.eval o).run P w = .ok (.value v) w' ∧ R g g' ∧ S g' w' ∧ wpAnyV P md ops Q S R fuel (listed.setIfInBounds i true) (a.put o.dst v) g') ∨
    (∃ w' g', (execOp a.eval o).run P w = .ok .skip w' ∧ R g g' ∧ S g' w' ∧ wpAnyV P md ops Q S R fuel (listed.setIfInBounds i true) (a.put o.dst undef) g'))
theorem v_each {rs : List Nat} (hr : Region.ready md ops listed = rs) (hne : rs ≠ []) (h : ∀ i ∈ rs, ∀ w, S g w → StepV P md ops Q S R fuel listed a g w i) : wpAnyV P md ops Q S R (fuel + 1) listed a g := by
  refine ⟨fun h0 => absurd (hr ▸ h0) hne, fun i hi w hS => ?_⟩
  obtain ⟨o, ho, hw, h1⟩ := h i (hr ▸ hi) w hS
  unfold wpOp
  simp only [ho]
  rw [if_pos hw]
  left
  unfold Oper.wp
  rcases h1 with ⟨v, w', g', hrun, hR, hS', hV⟩ | ⟨w', g', hrun, hR, hS', hV⟩
  · rw [hrun]; exact ⟨g', hR, hS', hV⟩
  · rw [hrun]; exact ⟨g', hR, hS', hV⟩
theorem v_done (hr : Region.ready md ops listed = []) (h : ∀ w, S g w → Q .normal a w) : ∀ n, wpAnyV P md ops Q S R n listed a g
  | 0 => ⟨hr, h⟩
  | _ + 1 => ⟨fun _ => h, fun i hi => by rw [hr] at hi; cases hi⟩
theorem v_start (R : γ → γ → Prop) (g : γ) {id : Nat} (hm : P.follows .mixedOrders = true) (hS : S g w.drew) (h : wpAnyV P .any ops Q S R ops.size (Array.replicate ops.size false) a g) : (Code.region id ops true).wp P Q a w :=
  wp_region_any hm (wpAny_of_v _ _ _ _ h _ hS)
theorem gv_value {v : Value} (hw : Region.wanted o (yielded ops a.tmps) = true) (h : ∀ g1, R g g1 → ∀ w, S g1 w → (execOp a.eval o).run P w = .ok (.value v) w) : GivesV P ops S R g o v a :=
  .inl ⟨hw, fun g1 hg w hS => by rw [h g1 hg w hS]; exact ⟨rfl, hS⟩⟩
theorem gv_call {v : Value} (hw : Region.wanted o (yielded ops a.tmps) = true) (f : FuncId) (xs : Array Operand) (ats : Array TypeId) (ho : o.op = .call { callee := .value (.func f), args := xs, argTypes := ats })
    (args : Array Value) (hargs : xs.map a.eval = args) (hfn : ∀ w, (callFunc f args).run P w = .ok (.enter f args) w) (h : ∀ g1, R g g1 → ∀ w, S g1 w → Calls P f args w fun e w' => e = .returned v ∧ S g1 w') : GivesV P ops S R g o v a :=
  .inl ⟨hw, fun b hg w hS => by
    have hx : (execOp a.eval o).run P w = .ok (.enter f args) w := by
      obtain ⟨dst, op, type, pos, after, guard⟩ := o
      subst ho
      show (execOp a.eval _).run P w = _
      rw [execOp_call_go]
      have e : #[] ++ xs.map a.eval ++ #[] = args := by rw [hargs]; simp
      rw [e]; exact hfn w
    rw [hx]; exact h b hg w hS⟩
theorem run_alloc {ρ : Operand → Value} {ty : TypeId} (ho : o.op = .alloc ty) (cs : Array Value) (hz : (P.info? ty).bind (·.zero) = some (.agg cs)) (w : World) : (execOp ρ o).run P w = .ok (.value (.pointer (some ⟨w.heap.size, 0, none⟩))) (w.alloc (.cells cs ty)) := by
  cases hq : P.info? ty with
  | none => simp [hq] at hz
  | some i =>
    have hz' : i.zero = some (.agg cs) := by simpa [hq] using hz
    unfold execOp
    simp only [ho]
    simp [Instr.alloc, zeroValue, typeInfo, hq, hz', newVar, newRow, Value.cells]
end
end Go.Proofs.YthkggeohdclffaaDoor
