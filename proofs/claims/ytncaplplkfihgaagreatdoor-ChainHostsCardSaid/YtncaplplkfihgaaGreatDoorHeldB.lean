/-
  A region that draws its order, taken by hand: guarded operations, strings.
-/
import Derived.Test.YtncaplplkfihgaaGreatDoorHeld
import Derived.Test.YtncaplplkfihgaaGreatDoorMore
import Derived.Test.YtncaplplkfihgaaGreatDoorStreamLaw
set_option linter.unusedVariables false
set_option linter.unusedSimpArgs false
set_option maxRecDepth 100000
namespace Go.Proofs.YtncaplplkfihgaaGreatDoor
open Go.RowKit
section
variable {P : Program} {ops : Array Oper} {Q : Exit → Act → World → Prop} {md : Region.Mode} {S : World → Prop} {i : Nat} {o : Oper} {fuel : Nat} {listed : Array Bool} {a : Act} {w : World}
/-- As held_take, for an operation whose guard lets it run. -/
theorem held_takeG (i : Nat) (hi : ops[i]? = some o) (hs : Region.noSelect ops = true) (hf : Region.free md ops listed i = true) (hr : (Region.ready md ops listed).contains i = true) (hw : Region.wanted o (yielded ops a.tmps) = true) (v : Value)
    (hQ : ∀ c a w, Q (.panic c) (a.put o.dst v) w → Q (.panic c) a w) (hrun : ∀ w, S w → (execOp a.eval o).run P w = .ok (.value v) w) (hS : S w)
    (h : wpAnyH P md ops Q S fuel (listed.setIfInBounds i true) (a.put o.dst v) w) : wpAnyH P md ops Q S (fuel + 1) listed a w :=
  wpAnyH_take hi hs hf hr hQ (.inl ⟨hw, hrun⟩) hS h
/-- As held_call, guarded. -/
theorem held_callG (i : Nat) (hr : Region.ready md ops listed = [i]) (hi : ops[i]? = some o) (hw : Region.wanted o (yielded ops a.tmps) = true) (f : FuncId) (xs : Array Operand) (ats : Array TypeId) (ho : o.op = .call { callee := .value (.func f), args := xs, argTypes := ats })
    (args : Array Value) (hargs : xs.map a.eval = args) (hfn : ∀ w, (callFunc f args).run P w = .ok (.enter f args) w)
    (h : Calls P f args w fun e w' => ∃ v, e = .returned v ∧ S w' ∧ (S w' → wpAnyH P md ops Q S fuel (listed.setIfInBounds i true) (a.put o.dst v) w')) : wpAnyH P md ops Q S (fuel + 1) listed a w := by
  refine wpAnyH_ready hr (by simp) (AllReadyH.cons hi (fun K hK => ?_) AllReadyH.nil)
  rw [if_pos hw]
  have hx : (execOp a.eval o).run P w = .ok (.enter f args) w := by
    obtain ⟨dst, op, type, pos, after, guard⟩ := o
    subst ho
    show (execOp a.eval _).run P w = _
    rw [execOp_call_go]
    have e : #[] ++ xs.map a.eval ++ #[] = args := by rw [hargs]; simp
    rw [e]; exact hfn w
  unfold Oper.wp
  rw [hx]
  refine h.mono ?_
  rintro e w' ⟨v, rfl, hS, hW⟩
  exact hK.out _ _ hS hW
/-- The one operation that may come up gives a value and another world. -/
theorem held_do (i : Nat) (hr : Region.ready md ops listed = [i]) (hi : ops[i]? = some o) (hw : Region.wanted o (yielded ops a.tmps) = true) (v : Value) (w2 : World) (hrun : (execOp a.eval o).run P w = .ok (.value v) w2) (hS : S w2)
    (h : S w2 → wpAnyH P md ops Q S fuel (listed.setIfInBounds i true) (a.put o.dst v) w2) : wpAnyH P md ops Q S (fuel + 1) listed a w := by
  refine wpAnyH_ready hr (by simp) (AllReadyH.cons hi (fun K hK => ?_) AllReadyH.nil)
  rw [if_pos hw]
  unfold Oper.wp
  rw [hrun]
  exact hK.out _ _ hS h
theorem run_pick {ρ : Operand → Value} {x y z : Operand} (ho : o.op = .pick x y z) {b : Bool} (hx : ρ x = .bool b) {v : Value} (hv : (if b then ρ y else ρ z) = v) (w : World) : (execOp ρ o).run P w = .ok (.value v) w := by
  subst hv
  unfold execOp
  simp only [ho, hx]
  cases b <;> simp [go_sem]
theorem run_toStr {ρ : Operand → Value} {src dst e : TypeId} {x : Operand} (ho : o.op = .convert src dst x) (hs : P.underlying src = some (.slice e)) (he : P.underlying e = some (.int .u8)) (hd : P.underlying dst = some .string) (B : Nat) (A : Option Addr) (n c : Nat) (l : List UInt8) (hx : ρ x = .slice A n c) (hr : ReadsB w B A n l) :
    (execOp ρ o).run P w = .ok (.value (.string (str l))) w := by
  unfold execOp
  simp only [ho, hx, Sem.run_bind, run_toString hs he hd B A n c l hr, Result.andThen_ok]
  rfl
theorem run_eqStr {ρ : Operand → Value} {x y : Operand} {t rt : TypeId} (ho : o.op = .binOp .eql t x y rt) (l m : List UInt8) (hx : ρ x = .string (str l)) (hy : ρ y = .string (str m)) (w : World) :
    (execOp ρ o).run P w = .ok (.value (.bool (decide (l = m)))) w := by
  unfold execOp
  simp only [ho, hx, hy, Sem.run_bind, run_str_eql, Result.andThen_ok]
  rfl
end
theorem OwnB.empty {w : World} {B : Nat} (hB : B ≤ w.heap.size) : OwnB (w.alloc (.cells #[] 5)) B (.slice (some ⟨w.heap.size, 0, none⟩) 0 0) [] :=
  ⟨rfl, .inr ⟨w.heap.size, 0, #[], rfl, hB, heap_alloc_new _ _, Nat.le_refl _, by unfold maxLen; omega, rfl, rfl⟩⟩
namespace Aes
/-- Twice the same stream takes it back. -/
theorem stream_twice (rs : List (List UInt8)) (ctr b : List UInt8) : stream rs ctr (stream rs ctr b) = b := by
  apply nth_ext
  · rw [stream_len, stream_len]
  · intro i hi
    rw [stream_len, stream_len] at hi
    rw [stream_get _ _ _ _ (by rw [stream_len]; exact hi), stream_get _ _ _ _ hi, UInt8.xor_assoc, UInt8.xor_self, UInt8.xor_zero]
end Aes
end Go.Proofs.YtncaplplkfihgaaGreatDoor
