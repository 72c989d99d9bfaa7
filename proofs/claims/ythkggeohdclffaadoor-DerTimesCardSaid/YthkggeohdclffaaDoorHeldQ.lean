/-
  A drawn region whose calls make memory of their own: what is known of the world is a word that only grows (a predicate); what only reads is taken first.
-/
import Derived.Test.YthkggeohdclffaaDoorHeldV
set_option linter.unusedVariables false
set_option linter.unusedSimpArgs false
set_option maxRecDepth 100000
namespace Go.Proofs.YthkggeohdclffaaDoor
open Go.RowKit
abbrev Word := (World → Prop) × (World → Prop)
def PW (g : Word) (W : World) : Prop := g.1 W ∧ g.2 W
def PR (g g' : Word) : Prop := ∀ W, g'.1 W → g.1 W
theorem PR.rf (g : Word) : PR g g := fun _ h => h
theorem PR.tr (x y z : Word) (h : PR x y) (h' : PR y z) : PR x z := fun W h1 => h W (h' W h1)
section
variable {P : Program} {ops : Array Oper} {Q : Exit → Act → World → Prop} {md : Region.Mode} {o o' : Oper} {fuel : Nat} {listed : Array Bool} {a : Act} {g x : World → Prop} {w : World}
theorem p_take (i : Nat) (hi : ops[i]? = some o) (hs : Region.noSelect ops = true) (hf : Region.free md ops listed i = true) (hr : (Region.ready md ops listed).contains i = true) (hw : Region.wanted o (yielded ops a.tmps) = true) (v : Value) (hQ : ∀ c a w, Q (.panic c) (a.put o.dst v) w → Q (.panic c) a w)
    (hrun : ∀ W, g W → (execOp a.eval o).run P W = .ok (.value v) W) (h : wpAnyV P md ops Q PW PR fuel (listed.setIfInBounds i true) (a.put o.dst v) (g, x)) : wpAnyV P md ops Q PW PR (fuel + 1) listed a (g, x) :=
  v_take PR.rf PR.tr i hi hs hf hr v hQ (gv_value hw (fun _ hg W hW => hrun W (hg W hW.1))) h
/-- An operation whose guard does not let it run. -/
theorem p_not (i : Nat) (hi : ops[i]? = some o) (hs : Region.noSelect ops = true) (hf : Region.free md ops listed i = true) (hr : (Region.ready md ops listed).contains i = true) (hw : Region.wanted o (yielded ops a.tmps) = false) (hQ : ∀ c a w, Q (.panic c) (a.put o.dst undef) w → Q (.panic c) a w)
    (h : wpAnyV P md ops Q PW PR fuel (listed.setIfInBounds i true) (a.put o.dst undef) (g, x)) : wpAnyV P md ops Q PW PR (fuel + 1) listed a (g, x) :=
  v_take PR.rf PR.tr i hi hs hf hr undef hQ (.inr ⟨hw, rfl⟩) h
/-- What comes behind a step. -/
def Next (P : Program) (md : Region.Mode) (ops : Array Oper) (Q : Exit → Act → World → Prop) (fuel : Nat) (listed : Array Bool) (g : World → Prop) (a : Act) (w : World) : Prop :=
  ∃ g' x' : World → Prop, (∀ W, g' W → g W) ∧ g' w ∧ x' w ∧ wpAnyV P md ops Q PW PR fuel listed a (g', x')
theorem Next.mk (g' x' : World → Prop) (h1 : ∀ W, g' W → g W) (h2 : g' w) (hx : x' w) (h3 : wpAnyV P md ops Q PW PR fuel listed a (g', x')) : Next P md ops Q fuel listed g a w := ⟨g', x', h1, h2, hx, h3⟩
theorem Next.un (h : Next P md ops Q fuel listed g a w) : ∃ g', PR (g, x) g' ∧ PW g' w ∧ wpAnyV P md ops Q PW PR fuel listed a g' := by
  obtain ⟨g', x', h1, h2, h3, h4⟩ := h
  exact ⟨(g', x'), h1, ⟨h2, h3⟩, h4⟩
theorem p_one (i : Nat) (hr : Region.ready md ops listed = [i]) (h : ∀ W, g W → x W → wpOp P ops Q i (Next P md ops Q fuel (listed.setIfInBounds i true) g) a W) : wpAnyV P md ops Q PW PR (fuel + 1) listed a (g, x) := by
  refine ⟨fun h0 => (by rw [hr] at h0; cases h0), fun j hj W hW => ?_⟩
  rw [hr] at hj
  obtain rfl : j = i := by simpa using hj
  exact wpOp_mono (fun a' w' h => h.un) (h W hW.1 hW.2)
theorem p_two (i j : Nat) (hr : Region.ready md ops listed = [i, j]) (h : ∀ W, g W → x W → wpOp P ops Q i (Next P md ops Q fuel (listed.setIfInBounds i true) g) a W)
    (h' : ∀ W, g W → x W → wpOp P ops Q j (Next P md ops Q fuel (listed.setIfInBounds j true) g) a W) : wpAnyV P md ops Q PW PR (fuel + 1) listed a (g, x) := by
  refine ⟨fun h0 => (by rw [hr] at h0; cases h0), fun k hk W hW => ?_⟩
  rw [hr] at hk
  rcases List.mem_cons.1 hk with rfl | hk
  · exact wpOp_mono (fun a' w' h => h.un) (h W hW.1 hW.2)
  · obtain rfl : k = j := by simpa using hk
    exact wpOp_mono (fun a' w' h => h.un) (h' W hW.1 hW.2)
theorem op_call {i : Nat} {K : Act → World → Prop} (hi : ops[i]? = some o) (hw : Region.wanted o (yielded ops a.tmps) = true) (f : FuncId) (xs : Array Operand) (ats : Array TypeId) (ho : o.op = .call { callee := .value (.func f), args := xs, argTypes := ats }) (args : Array Value) (hargs : xs.map a.eval = args)
    (hfn : ∀ w, (callFunc f args).run P w = .ok (.enter f args) w) (h : Calls P f args w fun e w' => ∃ v, e = .returned v ∧ K (a.put o.dst v) w') : wpOp P ops Q i K a w := by
  unfold wpOp
  simp only [hi]
  rw [if_pos hw]
  left
  unfold Oper.wp
  have hx : (execOp a.eval o).run P w = .ok (.enter f args) w := by
    obtain ⟨dst, op, type, pos, after, guard⟩ := o
    subst ho
    show (execOp a.eval _).run P w = _
    rw [execOp_call_go]
    have e : #[] ++ xs.map a.eval ++ #[] = args := by rw [hargs]; simp
    rw [e]; exact hfn w
  rw [hx]
  refine h.mono ?_
  rintro e w' ⟨v, rfl, hK⟩
  exact hK
theorem op_do {i : Nat} {K : Act → World → Prop} (hi : ops[i]? = some o) (hw : Region.wanted o (yielded ops a.tmps) = true) (v : Value) (w2 : World) (hrun : (execOp a.eval o).run P w = .ok (.value v) w2) (h : K (a.put o.dst v) w2) : wpOp P ops Q i K a w := by
  unfold wpOp
  simp only [hi]
  rw [if_pos hw]
  left
  unfold Oper.wp
  rw [hrun]
  exact h
theorem p_done (hr : Region.ready md ops listed = []) (h : ∀ W, g W → Q .normal a W) (n : Nat) : wpAnyV P md ops Q PW PR n listed a (g, x) := v_done hr (fun W hW => h W hW.1) n
theorem p_start (g : World → Prop) {id : Nat} (hm : P.follows .mixedOrders = true) (hS : g w.drew) (h : wpAnyV P .any ops Q PW PR ops.size (Array.replicate ops.size false) a (g, fun _ => True)) : (Code.region id ops true).wp P Q a w := v_start PR (g, fun _ => True) hm ⟨hS, trivial⟩ h
end
theorem run_eqT {P : Program} {ρ : Operand → Value} {o : Oper} {x y : Operand} {t rt : TypeId} (ho : o.op = .binOp .eql t x y rt) (l m : List UInt8) (h : l = m) (hx : ρ x = .string (str l)) (hy : ρ y = .string (str m)) (w : World) :
    (execOp ρ o).run P w = .ok (.value (.bool true)) w := by
  rw [run_eqStr ho l m hx hy w, decide_eq_true h]
theorem run_neqF {P : Program} {ρ : Operand → Value} {o : Oper} {x y : Operand} {t rt : TypeId} (ho : o.op = .binOp .neq t x y rt) (l m : List UInt8) (h : l = m) (hx : ρ x = .string (str l)) (hy : ρ y = .string (str m)) (w : World) :
    (execOp ρ o).run P w = .ok (.value (.bool false)) w := by
  subst h
  have e : (binOp .neq t (.string (str l)) (.string (str l))).run P w = .ok (.bool false) w := by
    show (Op.stringOp .neq (str l) (str l)).run P w = _
    simp [Op.stringOp]
  unfold execOp
  have eg : (eqGuard .neq t x y (.string (str l)) (.string (str l))).run P w = .ok () w := rfl
  simp only [ho, hx, hy, Sem.run_bind]
  rw [eg, Result.andThen_ok, e]
  rfl
theorem op_appendB {P : Program} {K : Act → World → Prop} {Q : Exit → Act → World → Prop} {ops : Array Oper} {o : Oper} {a : Act} {w : World} {i : Nat} (hP : P = Tryd.prog) (hi : ops[i]? = some o) (hw : Region.wanted o (yielded ops a.tmps) = true) (s x : Operand)
    (ho : o.op = .call { callee := .builtin .append, args := #[s, x], argTypes := #[22, 22] })
    (B : Nat) (v : Value) (l : List UInt8) (hs : a.eval s = v) (hown : OwnB w B v l) (B' : Nat) (A : Option Addr) (m c : Nat) (ys : List UInt8) (hx : a.eval x = .slice A m c) (hr : ReadsB w B' A m ys)
    (hlen : l.length + ys.length ≤ 140737488355328) (hB : B ≤ w.heap.size)
    (h : ∀ v' w', OwnB w' B v' (l ++ ys) → w.grownBy w' v.ownBlock → (v'.ownBlock = v.ownBlock ∨ v'.ownBlock = some w.heap.size) → K (a.put o.dst v') w') : wpOp P ops Q i K a w := by
  subst hP
  unfold wpOp
  simp only [hi]
  rw [if_pos hw]
  left
  obtain ⟨i0, hi0, hz0, hz1, hz2⟩ := info_parts u8_info
  have hm := hr.len
  refine wp_append_any w s x _ ho B 5 i0 _ 1 1 Tryd.underlying22 hi0 hz0 hz1 hz2 rfl (by omega) v l.length (l.map U8) hs hown.own B' A m c (ys.map U8) hx hr.is (by simp [Value.oneCell']) (by unfold maxLen; omega) (by omega) hB ?_
  intro v' w' h1 h2 h3
  refine h v' w' ⟨?_⟩ h2 h3
  rw [List.length_append, hm, List.map_append]; exact h1
end Go.Proofs.YthkggeohdclffaaDoor
