/-
  Items and texts of own slices, one by one.
-/
import Derived.Test.YthkggeohdclffaaDoorDerM
set_option linter.unusedVariables false
set_option linter.unusedSimpArgs false
set_option maxRecDepth 100000
namespace Go.Proofs.YthkggeohdclffaaDoor
open Go.RowKit
namespace Der
theorem fldI0 (ad : Addr) (w : World) : (Instr.fieldAt 25 (.pointer (some ad)) 0).run Tryd.prog w = .ok (.pointer (some (ad.add 0))) w := by kernel_rfl
theorem fldI1 (ad : Addr) (w : World) : (Instr.fieldAt 25 (.pointer (some ad)) 1).run Tryd.prog w = .ok (.pointer (some (ad.add 1))) w := by kernel_rfl
theorem flatI_at : ∀ (ys : List X) (i : Nat) (h : i < ys.length) (j : Nat), j < 4 → (flatI ys)[i * 4 + j]? = (ys[i].cells)[j]?
  | [], i, h, _, _ => by simp at h
  | y :: r, 0, _, j, hj => by
    simp only [flatI, List.flatMap_cons, Nat.zero_mul, Nat.zero_add]
    rw [List.getElem?_append_left (by simp [X.cells, itemCells]; omega)]
    simp
  | y :: r, i + 1, h, j, hj => by
    have ih := flatI_at r i (by simpa using h) j hj
    simp only [flatI, List.flatMap_cons]
    have e : y.cells.toList.length = 4 := rfl
    rw [List.getElem?_append_right (by rw [e]; omega), e, show (i + 1) * 4 + j - 4 = i * 4 + j by omega]
    exact ih
/-- What is read of an item. -/
theorem OwnI.at_ {w : World} {B n c : Nat} {A : Option Addr} {ys : List X} (h : OwnI w B (.slice A n c) ys) {i : Nat} (hi : i < ys.length) :
    ∃ ad, A = some ad ∧ ad.block < w.heap.size ∧ w.cell? ((ad.add (i * 4)).add 0) = some (.int .u8 ((n8 ys[i].1.tag : Nat) : Int)) ∧ w.cell? ((ad.add (i * 4)).add 1) = some ys[i].2 := by
  rcases h.own.2 with ⟨_, h0⟩ | ⟨g, cap, cur, e, hb, hg, _⟩
  · omega
  · injection e with e1 e2 e3
    subst e1 e2 e3
    have hc := h.own.cells (g := g) rfl
    refine ⟨_, rfl, (h.lt g rfl).2, ?_, ?_⟩
    · rw [add_of_add]; exact hc _ _ (by rw [flatI_at ys i hi 0 (by omega)]; rfl)
    · rw [add_of_add]; exact hc _ _ (by rw [flatI_at ys i hi 1 (by omega)]; rfl)
theorem OwnW.at_ {w : World} {B n c : Nat} {A : Option Addr} {ps : List Part} (h : OwnW w B (.slice A n c) ps) {i : Nat} (hi : i < ps.length) :
    ∃ ad, A = some ad ∧ ad.block < w.heap.size ∧ w.cell? (ad.add (i * 1)) = some (sl ps[i]) := by
  rcases h.own.2 with ⟨_, h0⟩ | ⟨g, cap, cur, e, hb, hg, _⟩
  · omega
  · injection e with e1 e2 e3
    subst e1 e2 e3
    have hc := h.own.cells (g := g) rfl
    refine ⟨_, rfl, (h.lt g rfl).2, ?_⟩
    exact hc _ _ (by rw [Nat.mul_one, List.getElem?_map, List.getElem?_eq_getElem hi]; rfl)
theorem OwnB.sliceX {w : World} {B : Nat} {v : Value} {l : List UInt8} (h : OwnB w B v l) : ∃ A c, v = .slice A l.length c := by
  rcases h.own.2 with ⟨rfl, h0⟩ | ⟨g, cap, cur, rfl, _⟩
  · exact ⟨none, 0, by rw [h0]⟩
  · exact ⟨_, _, rfl⟩
theorem same_at {ps : List Part} {ys : List X} {xs : List Item} {ws : List (UInt8 × List UInt8)} (h1 : ys.map (·.1) = xs) (h2 : xs.map (fun x => (x.tag, x.body)) = ws) (h3 : ps.map (·.t) = ws.map (fun p => put p.1 p.2)) {i : Nat} (hi : i < ys.length) (hp : i < ps.length) :
    put ys[i].1.tag ys[i].1.body = ps[i].t ∧ (ys[i].1.tag, ys[i].1.body) ∈ ws := by
  subst h1 h2
  have h := congrArg (fun l => l[i]?) h3
  simp only [List.getElem?_map, List.getElem?_eq_getElem hi, List.getElem?_eq_getElem hp, Option.map_some, Option.some.injEq] at h
  refine ⟨h.symm, ?_⟩
  rw [List.map_map]
  exact List.mem_map.2 ⟨ys[i], List.getElem_mem _, rfl⟩
end Der
end Go.Proofs.YthkggeohdclffaaDoor
