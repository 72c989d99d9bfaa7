/-
  A region that draws its order, and whose operations give the same values in every world that meets S and end in such a world (a call that makes memory of its own, a load, arithmetic): taken once, in any one order, no branch.
  One operation, number s, may write: S false holds ahead of it, S true behind it.
-/
import Derived.Test.YthkggeohdclffaaDoorHeldB
set_option linter.unusedVariables false
set_option linter.unusedSimpArgs false
set_option maxRecDepth 100000
namespace Go.Proofs.YthkggeohdclffaaDoor
open Go.RowKit
section
variable {P : Program} {ops : Array Oper} {Q : Exit → Act → World → Prop} {md : Region.Mode} {S : Bool → World → Prop} {s : Nat}
/-- The run of an operation gives v, and S holds behind it. -/
def GivesR (P : Program) (S : World → Prop) (v : Value) : Result Next → Prop
  | .ok (.value u) w => u = v ∧ S w
  | .ok .skip w => v = undef ∧ S w
  | .ok (.enter f args) w => Calls P f args w fun e w' => e = .returned v ∧ S w'
  | _ => False
/-- In state a, in every world that meets S, operation number i, o, gives v, and S holds behind it; or its guard keeps it from running. -/
def Gives (P : Program) (ops : Array Oper) (S : Bool → World → Prop) (s i : Nat) (o : Oper) (v : Value) (a : Act) : Prop :=
  (Region.wanted o (yielded ops a.tmps) = true ∧ ∀ f w, S f w → GivesR P (S (f || i == s)) v ((execOp a.eval o).run P w)) ∨ (Region.wanted o (yielded ops a.tmps) = false ∧ v = undef ∧ i ≠ s)
def flag (s : Nat) (listed : Array Bool) : Bool := listed.getD s false
theorem flag_set (s j : Nat) (listed : Array Bool) (h : listed.getD j true = false) : flag s (listed.setIfInBounds j true) = (flag s listed || j == s) := by
  have hj : j < listed.size := by
    rcases Nat.lt_or_ge j listed.size with h' | h'
    · exact h'
    · simp [Array.getElem?_eq_none h'] at h
  unfold flag
  by_cases e : j = s
  · subst e; simp [hj]
  · rw [getD_set_ne false e]; simp [e]
theorem GivesR.upon {o : Oper} {a : Act} {v : Value} {K : Act → World → Prop} {r : Result Next} {S : World → Prop} (h : GivesR P S v r) (hK : ∀ w, S w → K (a.put o.dst v) w) : o.upon P a K Q r := by
  cases r with
  | ok n w =>
    cases n <;> simp only [GivesR, Oper.upon] at h ⊢
    case value u => obtain ⟨rfl, hS⟩ := h; exact hK _ hS
    case skip => obtain ⟨rfl, hS⟩ := h; exact hK _ hS
    case enter f args => exact Calls.mono h fun e w' ⟨he, hS⟩ => by subst he; exact hK _ hS
  | halt x w => cases h
theorem Gives.wpOp {i : Nat} {o : Oper} {v : Value} {a : Act} (hi : ops[i]? = some o) (hy : Gives P ops S s i o v a) {K : Act → World → Prop} {f : Bool} {w : World} (hS : S f w) (hK : ∀ w, S (f || i == s) w → K (a.put o.dst v) w) : wpOp P ops Q i K a w := by
  unfold Go.wpOp
  simp only [hi]
  rcases hy with ⟨hw, hv⟩ | ⟨hw, rfl, hne⟩
  · rw [if_pos hw]; exact .inl ((hv f w hS).upon hK)
  · rw [if_neg (by rw [hw]; exact Bool.false_ne_true)]; exact hK w (by rw [beq_eq_false_iff_ne.2 hne, Bool.or_false]; exact hS)
theorem Gives.same {i : Nat} {o : Oper} {v : Value} {a a' : Act} (hy : Gives P ops S s i o v a) (he : execOp a'.eval o = execOp a.eval o) (hw : Region.wanted o (yielded ops a'.tmps) = Region.wanted o (yielded ops a.tmps)) : Gives P ops S s i o v a' := by
  unfold Gives at *
  rw [he, hw]; exact hy
theorem wpOp_apart {i j : Nat} {oi oj : Oper} {v : Value} (hj : ops[j]? = some oj) (hap : oi.apart ops oj = true) (hsi : ∀ cs b, oi.op ≠ .select cs b) (hsj : ∀ cs b, oj.op ≠ .select cs b)
    (hQ : ∀ c a w, Q (.panic c) (a.put oi.dst v) w → Q (.panic c) a w) {K : Act → World → Prop} {a : Act} {w : World} (hy : Gives P ops S s i oi v a) (h : wpOp P ops Q j K (a.put oi.dst v) w) :
    wpOp P ops Q j (fun a' w' => Gives P ops S s i oi v a' ∧ K (a'.put oi.dst v) w') a w := by
  obtain ⟨h1, h2, h3⟩ := Oper.apart_spec hap
  have stay : ∀ (b : Act), Gives P ops S s i oi v b → ∀ u, Gives P ops S s i oi v (b.put oj.dst u) := fun b hb u => hb.same (execOp_put oi hsi b oj.dst u h3) (wanted_put oi b oj.dst u h3)
  unfold wpOp at h ⊢
  simp only [hj] at h ⊢
  rw [wanted_put oj a oi.dst v h1] at h
  by_cases hw : Region.wanted oj (yielded ops a.tmps) = true
  · rw [if_pos hw] at h ⊢
    rcases h with h | ⟨hasks, hlets⟩
    · left
      unfold Oper.wp at h ⊢
      rw [execOp_put oj hsj a oi.dst v h1] at h
      revert h
      generalize (execOp a.eval oj).run P w = r
      intro h
      cases r with
      | halt x w' =>
        cases x <;> simp only [Oper.upon] at h ⊢
        exact hQ _ _ _ h
      | ok n w' =>
        cases n <;> simp only [Oper.upon] at h ⊢
        case value u => exact ⟨stay a hy u, by rw [← Act.put_comm a v u h2]; exact h⟩
        case skip => exact ⟨stay a hy _, by rw [← Act.put_comm a v undef h2]; exact h⟩
        case defer d =>
          refine ⟨stay { a with defers := d :: a.defers } (hy.same rfl rfl) undef, ?_⟩
          rw [← Act.put_comm _ v undef h2, ← Act.put_defers]; exact h
        case enter f args =>
          refine Calls.mono h fun e w'' he => ?_
          cases e with
          | returned u => exact ⟨stay a hy u, by rw [← Act.put_comm a v u h2]; exact he⟩
          | panicked c => exact hQ _ _ _ he
          | outgrown => exact he
        case row row args => exact Rows.mono h fun u w'' he => ⟨stay a hy u, by rw [← Act.put_comm a v u h2]; exact he⟩
    · right
      refine ⟨?_, hlets⟩
      unfold Oper.asks at *
      rw [execOp_put oj hsj a oi.dst v h1] at hasks
      exact hasks
  · rw [if_neg hw] at h ⊢
    exact ⟨stay a hy _, by rw [← Act.put_comm a v undef h2]; exact h⟩
theorem flag_ne (s j : Nat) (listed : Array Bool) (h : j ≠ s) : flag s (listed.setIfInBounds j true) = flag s listed := getD_set_ne false h
/-- Whatever order is drawn, in whatever world that meets S: S holds behind each operation, and Q at the end. -/
def wpAnyU (P : Program) (md : Region.Mode) (ops : Array Oper) (Q : Exit → Act → World → Prop) (S : Bool → World → Prop) (s : Nat) : Nat → Array Bool → Act → Prop
  | 0, listed, a => Region.ready md ops listed = [] ∧ ∀ w, S (flag s listed) w → Q .normal a w
  | n + 1, listed, a => (Region.ready md ops listed = [] → ∀ w, S (flag s listed) w → Q .normal a w) ∧
    ∀ i ∈ Region.ready md ops listed, ∀ w, S (flag s listed) w → wpOp P ops Q i (fun a' w' => S (flag s (listed.setIfInBounds i true)) w' ∧ wpAnyU P md ops Q S s n (listed.setIfInBounds i true) a') a w
theorem wpAny_of_u : ∀ (n : Nat) (listed : Array Bool) (a : Act), wpAnyU P md ops Q S s n listed a → ∀ w, S (flag s listed) w → wpAny P md ops Q n listed a w
  | 0, _, _, h, w, hS => ⟨h.1, h.2 w hS⟩
  | n + 1, listed, a, h, w, hS => ⟨fun h0 => h.1 h0 w hS, fun i hi => wpOp_mono (fun a' w' h' => wpAny_of_u n _ a' h'.2 w' h'.1) (h.2 i hi w hS)⟩
theorem wpAnyU_first {i : Nat} {oi : Oper} {v : Value} (his : i ≠ s) (hi : ops[i]? = some oi) (hsel : ∀ (j : Nat) (o : Oper) cs b, ops[j]? = some o → o.op ≠ .select cs b) (hQ : ∀ c a w, Q (.panic c) (a.put oi.dst v) w → Q (.panic c) a w) :
    ∀ (n : Nat) (listed : Array Bool) (a : Act), (∀ j oj, ops[j]? = some oj → j ≠ i → listed.getD j true = false → (∀ e ∈ oj.after, Region.binds md e = true → e.on ≠ i) → oi.apart ops oj = true) →
      i ∈ Region.ready md ops listed → Gives P ops S s i oi v a → wpAnyU P md ops Q S s n (listed.setIfInBounds i true) (a.put oi.dst v) → wpAnyU P md ops Q S s (n + 1) listed a := by
  intro n
  induction n with
  | zero =>
    intro listed a _ hr hy H
    refine ⟨fun h => (by rw [h] at hr; cases hr), fun j hj w hS => ?_⟩
    by_cases hji : j = i
    · subst hji; exact hy.wpOp hi hS fun w' hS' => ⟨by rw [flag_set _ _ _ (mem_ready.1 hr).1]; exact hS', H⟩
    · have h0 := ready_mono hj hji
      rw [H.1] at h0; cases h0
  | succ n ih =>
    intro listed a hfree hr hy H
    refine ⟨fun h => (by rw [h] at hr; cases hr), fun j hj w hS => ?_⟩
    by_cases hji : j = i
    · subst hji; exact hy.wpOp hi hS fun w' hS' => ⟨by rw [flag_set _ _ _ (mem_ready.1 hr).1]; exact hS', H⟩
    · obtain ⟨hjun, oj, hoj, hall⟩ := mem_ready.1 hj
      have hwait : ∀ e ∈ oj.after, Region.binds md e = true → e.on ≠ i := by
        intro e he hb heq
        have h1 := hall e he hb
        have h0 := (mem_ready.1 hr).1
        rw [heq] at h1
        rcases Nat.lt_or_ge i listed.size with h' | h'
        · simp [h'] at h0 h1; rw [h0] at h1; cases h1
        · simp [Array.getElem?_eq_none h'] at h1
      have h2 := wpOp_apart hoj (hfree j oj hoj hji hjun hwait) (fun cs b => hsel i oi cs b hi) (fun cs b => hsel j oj cs b hoj) hQ hy (H.2 j (ready_mono hj hji) w (by rw [flag_ne _ _ _ his]; exact hS))
      have hfree2 : ∀ k ok, ops[k]? = some ok → k ≠ i → (listed.setIfInBounds j true).getD k true = false → (∀ e ∈ ok.after, Region.binds md e = true → e.on ≠ i) → oi.apart ops ok = true := by
        intro k ok hk hki hun hno
        refine hfree k ok hk hki ?_ hno
        by_cases hjk : j = k
        · subst hjk; exact hjun
        · rw [getD_set_ne true hjk] at hun; exact hun
      refine wpOp_mono (fun a' w' h3 => ⟨?_, ih (listed.setIfInBounds j true) a' hfree2 (ready_mono hr (Ne.symm hji)) h3.1 ?_⟩) h2
      · have h4 := h3.2.1
        rw [Array.setIfInBounds_comm _ _ (Ne.symm hji), flag_ne _ _ _ his] at h4
        exact h4
      · rw [Array.setIfInBounds_comm _ _ hji]
        exact h3.2.2
variable {i : Nat} {o : Oper} {fuel : Nat} {listed : Array Bool} {a : Act} {w : World}
/-- Number i, that gives v. -/
theorem u_take (i : Nat) (his : (i == s) = false) (hi : ops[i]? = some o) (hs : Region.noSelect ops = true) (hf : Region.free md ops listed i = true) (hr : (Region.ready md ops listed).contains i = true) (v : Value) (hQ : ∀ c a w, Q (.panic c) (a.put o.dst v) w → Q (.panic c) a w)
    (hy : Gives P ops S s i o v a) (h : wpAnyU P md ops Q S s fuel (listed.setIfInBounds i true) (a.put o.dst v)) : wpAnyU P md ops Q S s (fuel + 1) listed a :=
  wpAnyU_first (beq_eq_false_iff_ne.1 his) hi (Region.noSelect_spec hs) hQ fuel listed a (Region.free_spec hi hf) (by simpa using hr) hy h
/-- The one that writes, where it alone may come up. -/
theorem u_last (hi : ops[s]? = some o) (hr : Region.ready md ops listed = [s]) (v : Value) (hy : Gives P ops S s s o v a) (h : wpAnyU P md ops Q S s fuel (listed.setIfInBounds s true) (a.put o.dst v)) : wpAnyU P md ops Q S s (fuel + 1) listed a := by
  refine ⟨fun h0 => (by rw [hr] at h0; cases h0), fun j hj w hS => ?_⟩
  have hj' := hj
  rw [hr] at hj'
  obtain rfl : j = s := by simpa using hj'
  exact hy.wpOp hi hS fun w' hS' => ⟨by rw [flag_set _ _ _ (mem_ready.1 hj).1]; exact hS', h⟩
theorem u_done (hr : Region.ready md ops listed = []) (h : ∀ w, S (flag s listed) w → Q .normal a w) : ∀ n, wpAnyU P md ops Q S s n listed a
  | 0 => ⟨hr, h⟩
  | _ + 1 => ⟨fun _ => h, fun i hi => by rw [hr] at hi; cases hi⟩
/-- The beginning. -/
theorem u_start (s : Nat) {id : Nat} (hm : P.follows .mixedOrders = true) (hS : S false w.drew) (h : wpAnyU P .any ops Q S s ops.size (Array.replicate ops.size false) a) : (Code.region id ops true).wp P Q a w := by
  have hf : flag s (Array.replicate ops.size false) = false := by
    unfold flag
    rw [Array.getD_eq_getD_getElem?, Array.getElem?_replicate]
    split <;> rfl
  exact wp_region_any hm (wpAny_of_u _ _ _ h _ (by rw [hf]; exact hS))
theorem g_value {v : Value} (his : (i == s) = false) (hw : Region.wanted o (yielded ops a.tmps) = true) (h : ∀ f w, S f w → (execOp a.eval o).run P w = .ok (.value v) w) : Gives P ops S s i o v a :=
  .inl ⟨hw, fun f w hS => by rw [h f w hS]; exact ⟨rfl, by rw [his, Bool.or_false]; exact hS⟩⟩
theorem g_not (his : (i == s) = false) (hw : Region.wanted o (yielded ops a.tmps) = false) : Gives P ops S s i o undef a := .inr ⟨hw, rfl, beq_eq_false_iff_ne.1 his⟩
/-- The store. -/
theorem g_store (hw : Region.wanted o (yielded ops a.tmps) = true) (h : ∀ f w, S f w → ∃ w', (execOp a.eval o).run P w = .ok .skip w' ∧ S true w') : Gives P ops S s s o undef a :=
  .inl ⟨hw, fun f w hS => by
    obtain ⟨w', h1, h2⟩ := h f w hS
    rw [h1]; exact ⟨rfl, by rw [beq_self_eq_true, Bool.or_true]; exact h2⟩⟩
theorem g_call {v : Value} (his : (i == s) = false) (hw : Region.wanted o (yielded ops a.tmps) = true) (f : FuncId) (xs : Array Operand) (ats : Array TypeId) (ho : o.op = .call { callee := .value (.func f), args := xs, argTypes := ats })
    (args : Array Value) (hargs : xs.map a.eval = args) (hfn : ∀ w, (callFunc f args).run P w = .ok (.enter f args) w) (h : ∀ b w, S b w → Calls P f args w fun e w' => e = .returned v ∧ S b w') : Gives P ops S s i o v a :=
  .inl ⟨hw, fun b w hS => by
    have hx : (execOp a.eval o).run P w = .ok (.enter f args) w := by
      obtain ⟨dst, op, type, pos, after, guard⟩ := o
      subst ho
      show (execOp a.eval _).run P w = _
      rw [execOp_call_go]
      have e : #[] ++ xs.map a.eval ++ #[] = args := by rw [hargs]; simp
      rw [e]; exact hfn w
    rw [hx]
    exact (h b w hS).mono fun e w' ⟨he, hS'⟩ => ⟨he, by rw [his, Bool.or_false]; exact hS'⟩⟩
theorem run_store_arr {ρ : Operand → Value} {ty : TypeId} {x y : Operand} (ho : o.op = .store ty x y) (g : Nat) (l : List UInt8) (hx : ρ x = .pointer (some ⟨g, 0, none⟩)) (hy : ρ y = .agg (arr l))
    (t : TypeId) (cs : Array Value) (hb : Blk w g t cs) (n : Nat) (hn : (P.info? ty).map (·.size) = some n) (hl : l.length = n) (hc : cs.size = n) : (execOp ρ o).run P w = .ok .skip (w.setRow g (arr l)) := by
  have h := run_storeVar_at (P := P) (ty := ty) hb 0 (l.map U8) (by rw [hn, List.length_map, hl]) (by rw [List.length_map]; omega) (by simp [Value.oneCell'])
  rw [splice_all cs _ (by rw [List.length_map]; omega)] at h
  have h' : (storeVar ty ⟨g, 0, none⟩ (.agg (arr l))).run P w = .ok () (w.setRow g (arr l)) := h
  unfold execOp
  simp only [ho, hx, hy, Instr.storeAt, Instr.sureAddr, Sem.run_bind, Sem.run_pure, Result.andThen_ok, h']
end
end Go.Proofs.YthkggeohdclffaaDoor
