/-
  A region that draws its order, taken step by step by hand: what only reads is taken first; a call where it alone may come up.
-/
import Derived.Test.YtncaplplkfihgaaGreatDoorApp
import Derived.Test.YtncaplplkfihgaaGreatDoorEq
import Derived.Deep.RegionHeld
set_option linter.unusedVariables false
set_option linter.unusedSimpArgs false
set_option maxRecDepth 100000
namespace Go.Proofs.YtncaplplkfihgaaGreatDoor
open Go.RowKit
section
variable {P : Program} {ops : Array Oper} {Q : Exit → Act → World → Prop} {md : Region.Mode} {S : World → Prop} {i : Nat} {o : Oper} {fuel : Nat} {listed : Array Bool} {a : Act} {w : World}
theorem wanted_plain (hgd : o.guard = none) : Region.wanted o (yielded ops a.tmps) = true := by simp [Region.wanted, hgd]
/-- An operation that in every world that meets S gives v. -/
theorem held_take (i : Nat) (hi : ops[i]? = some o) (hs : Region.noSelect ops = true) (hf : Region.free md ops listed i = true) (hr : (Region.ready md ops listed).contains i = true) (hgd : o.guard = none) (v : Value)
    (hQ : ∀ c a w, Q (.panic c) (a.put o.dst v) w → Q (.panic c) a w) (hrun : ∀ w, S w → (execOp a.eval o).run P w = .ok (.value v) w) (hS : S w)
    (h : wpAnyH P md ops Q S fuel (listed.setIfInBounds i true) (a.put o.dst v) w) : wpAnyH P md ops Q S (fuel + 1) listed a w :=
  wpAnyH_take hi hs hf hr hQ (.inl ⟨wanted_plain hgd, hrun⟩) hS h
theorem run_move {ρ : Operand → Value} {x : Operand} (ho : o.op = .move x) {v : Value} (hx : ρ x = v) (w : World) : (execOp ρ o).run P w = .ok (.value v) w := by
  unfold execOp
  simp only [ho, hx]; rfl
theorem run_assign {ρ : Operand → Value} {x : Operand} (ho : o.op = .assign x) {v : Value} (hx : ρ x = v) (w : World) : (execOp ρ o).run P w = .ok (.value v) w := by
  unfold execOp
  simp only [ho, hx]; rfl
theorem run_load_arr {ρ : Operand → Value} {ty : TypeId} {x : Operand} (ho : o.op = .load ty x) {ad : Addr} (hx : ρ x = .pointer (some ad)) {n : Nat} (ht : AggT P ty n) (l : List UInt8) (hl : l.length = n) (hc : Cells w ad (l.map U8)) :
    (execOp ρ o).run P w = .ok (.value (.agg (arr l))) w :=
  run_execOp_load ho hx (run_loadVar_cells ht ad _ (by rw [List.length_map, hl]) hc.is)
/-- The one operation that may come up is a call of a Go function. -/
theorem held_call (i : Nat) (hr : Region.ready md ops listed = [i]) (hi : ops[i]? = some o) (hgd : o.guard = none) (f : FuncId) (xs : Array Operand) (ats : Array TypeId) (ho : o.op = .call { callee := .value (.func f), args := xs, argTypes := ats })
    (args : Array Value) (hargs : xs.map a.eval = args) (hfn : ∀ w, (callFunc f args).run P w = .ok (.enter f args) w)
    (h : Calls P f args w fun e w' => ∃ v, e = .returned v ∧ S w' ∧ (S w' → wpAnyH P md ops Q S fuel (listed.setIfInBounds i true) (a.put o.dst v) w')) : wpAnyH P md ops Q S (fuel + 1) listed a w := by
  refine wpAnyH_ready hr (by simp) (AllReadyH.cons hi (fun K hK => ?_) AllReadyH.nil)
  rw [if_pos (wanted_plain hgd)]
  have hx : (execOp a.eval o).run P w = .ok (.enter f args) w := by
    obtain ⟨dst, op, type, pos, after, guard⟩ := o
    subst ho
    show (execOp a.eval _).run P w = _
    rw [execOp_call_go]
    have e : #[] ++ xs.map a.eval ++ #[] = args := by rw [hargs]; simp
    rw [e]; exact hfn w
  unfold Oper.wp
  rw [hx]
  refine h.mono ?_
  rintro e w' ⟨v, rfl, hS, hW⟩
  exact hK.out _ _ hS hW
theorem run_eql_bool {ρ : Operand → Value} {x y : Operand} {t rt : TypeId} (ho : o.op = .binOp .eql t x y rt) (b c : Bool) (hx : ρ x = .bool b) (hy : ρ y = .bool c) (ht : P.underlying t = some .bool) :
    (execOp ρ o).run P w = .ok (.value (.bool (b == c))) w := by
  unfold execOp
  simp only [ho, hx, hy]
  simp [go_sem, ht]
end
end Go.Proofs.YtncaplplkfihgaaGreatDoor
