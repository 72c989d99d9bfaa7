/-
  Two arrays of bytes held against one another.
-/
import Derived.Test.YtncaplplkfihgaaGreatDoorTy
import Derived.Laws.StructEq
set_option linter.unusedVariables false
set_option linter.unusedSimpArgs false
set_option maxRecDepth 100000
namespace Go.Proofs.YtncaplplkfihgaaGreatDoor
open Go.RowKit
theorem run_noagg {P : Program} {w : World} {elem : TypeId} (ha : ((P.underlying elem).map isAggD) = some false) : (isAgg elem).run P w = .ok false w := by
  cases hd : P.underlying elem with
  | none => simp [hd] at ha
  | some d =>
    unfold isAgg
    rw [Sem.run_bind, run_underlying hd w]
    rw [hd] at ha
    cases d <;> simp_all [isAggD]
def eqTo (a b : List UInt8) : Nat → Nat → Bool
  | _, 0 => true
  | i, k + 1 => (nth a i == nth b i) && eqTo a b (i + 1) k
theorem eqTo_all (a b : List UInt8) : ∀ (k i : Nat), eqTo a b i k = true ↔ ∀ j, i ≤ j → j < i + k → nth a j = nth b j
  | 0, i => by simp [eqTo]; omega
  | k + 1, i => by
    simp only [eqTo, Bool.and_eq_true, beq_iff_eq, eqTo_all a b k (i + 1)]
    constructor
    · rintro ⟨h0, h⟩ j hij hj
      by_cases e : j = i
      · rw [e]; exact h0
      · exact h j (by omega) (by omega)
    · intro h
      exact ⟨h i (Nat.le_refl _) (by omega), fun j h1 h2 => h j (by omega) (by omega)⟩
theorem run_equalIn_arr {P : Program} (w : World) (d : Nat) {t elem : TypeId} {n : Nat} (hu : P.underlying t = some (.array n elem)) (he : P.underlying elem = some (.int .u8)) (hi : (P.info? elem).map (·.size) = some 1) (a b : List UInt8) (ha : a.length = n) (hb : b.length = n) :
    (Op.equalIn (d + 2) t (.agg (arr a)) (.agg (arr b))).run P w = .ok (decide (a = b)) w := by
  have hag : (isAgg elem).run P w = .ok false w := run_noagg (by rw [he]; rfl)
  have hfin : decide (a = b) = eqTo a b 0 n := by
    rw [Bool.eq_iff_iff, decide_eq_true_eq, eqTo_all]
    constructor
    · rintro rfl j _ _; rfl
    · intro h
      apply List.ext_getElem (by omega)
      intro i h1 h2
      have := h i (Nat.zero_le _) (by omega)
      simpa [nth, h1, h2] using this
  rw [hfin]
  rw [show d + 2 = (d + 1) + 1 from rfl, Op.equalIn]
  simp only [Sem.run_bind, run_underlying hu, Result.andThen_ok, run_sizeOf hi, Nat.mul_one]
  rw [Std.Legacy.Range.forIn_eq_forIn_range']
  simp only [Std.Legacy.Range.size, Nat.sub_zero, Nat.add_sub_cancel, Nat.div_one]
  have key : ∀ k i, i + k = n →
      (Sem.run P (forIn (List.range' i k) ((none : Option Bool), PUnit.unit) fun i (_ : Option Bool × PUnit) => do
        let __do_lift ← part elem (arr a) i
        let __do_lift_1 ← part elem (arr b) i
        let __do_lift ← Op.equalIn (d + 1) elem __do_lift __do_lift_1
        if (!__do_lift) = true then pure (ForInStep.done (some false, PUnit.unit))
        else pure (ForInStep.yield (none, PUnit.unit))) w) = .ok (if eqTo a b i k then (none, PUnit.unit) else (some false, PUnit.unit)) w := by
    intro k
    induction k with
    | zero => intro i _; simp [eqTo]
    | succ k ih =>
      intro i hik
      have p1 : (part elem (arr a) i).run P w = .ok (.int .u8 (n8 (nth a i))) w := by
        simp [part, hag, arr_get a i (by omega)]
      have p2 : (part elem (arr b) i).run P w = .ok (.int .u8 (n8 (nth b i))) w := by
        simp [part, hag, arr_get b i (by omega)]
      rw [List.range'_succ]
      simp only [List.forIn_cons, Sem.run_bind, p1, p2, Result.andThen_ok, run_equalIn_int w d elem _ _ _ _ he, beq_n8, eqTo]
      by_cases hc : (nth a i == nth b i) = true
      · have := ih (i + 1) (by omega)
        simp only [hc, Bool.not_true, Bool.false_eq_true, if_false, Sem.run_pure, Result.andThen_ok, Bool.true_and]
        exact this
      · have hc := Bool.not_eq_true _ ▸ hc
        simp [hc]
  have k0 := key n 0 (by omega)
  rw [k0]
  cases eqTo a b 0 n <;> simp
theorem one8 : (Tryz.prog.info? 5).map (·.size) = some 1 := by kernel_rfl
end Go.Proofs.YtncaplplkfihgaaGreatDoor
