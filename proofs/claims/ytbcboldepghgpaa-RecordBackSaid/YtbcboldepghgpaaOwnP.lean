/-
  An own slice of Piece structs.
-/
import Derived.Test.YtbcboldepghgpaaOpenP
import Derived.Deep.DeepAppendWide
set_option linter.unusedVariables false
set_option linter.unusedSimpArgs false
set_option maxRecDepth 100000
namespace Go.Proofs.Ytbcboldepghgpaa
open Go.ChangeShapes Go.WideShapes Go.ChangeAt Go.RowKit Go.Deep Go.WideElems Go.Joins
/-- a piece as it lies: its content, its bytes' slice value, its pad -/
structure Pc where
  k : UInt8
  v : Value
  pad : Int
def Pc.cells (p : Pc) : List Value := [.int .u8 (n8 p.k), p.v, .int .i64 p.pad]
def OwnP (w : World) (B : Nat) (v : Value) (l : List Pc) : Prop := w.ownsRow B 50 3 v l.length (l.flatMap Pc.cells)
theorem pc_info : (Try.prog.info? 50).map (fun i => (i.zero, i.size, i.bytes)) = some (some (.agg #[.int .u8 0, .slice none 0 0, .int .i64 0]), 3, 40) := by kernel_rfl
theorem run_appendP (w : World) (ty : TypeId) (B : Nat) (v : Value) (l : List Pc) (hown : OwnP w B v l) (a : Addr) (c : Nat) (p : Pc) (hk : w.cell? a = some (.int .u8 (n8 p.k))) (hv : w.cell? (a.add 1) = some p.v) (hp : w.cell? (a.add 2) = some (.int .i64 p.pad)) (h1 : p.v.oneCell' = true)
    (hl : l.length ≤ 100) (hB : B ≤ w.heap.size) :
    ∃ v' w', (Builtin.append_ #[44, 44] ty #[v, .slice (some a) 1 c]).run Try.prog w = .ok v' w' ∧ OwnP w' B v' (l ++ [p]) ∧ w.grownBy w' v.ownBlock := by
  have hin := pc_info
  simp only [Option.map_eq_some_iff, Prod.mk.injEq] at hin
  obtain ⟨i, hi, hz, hs, hb⟩ := hin
  obtain ⟨v', w', hr, ho, hg, _⟩ := run_append_own_wide (P := Try.prog) w B 44 ty 50 i _ 3 40 Try.underlying44 hi hz hs hb (by rfl) (by omega) v l.length (l.flatMap Pc.cells) hown a 1 c p.cells (by simp [Pc.cells])
    (fun j u hj => by
      match j, hj with
      | 0, hj => simp [Pc.cells] at hj; subst hj; cases a; simpa [Addr.add] using hk
      | 1, hj => simp [Pc.cells] at hj; subst hj; exact hv
      | 2, hj => simp [Pc.cells] at hj; subst hj; exact hp)
    (fun u hu => by simp [Pc.cells] at hu; rcases hu with rfl | rfl | rfl; rfl; exact h1; rfl) (by simp only [maxLen]; omega) (by omega) hB
  refine ⟨v', w', hr, ?_, hg⟩
  unfold OwnP
  simpa [List.flatMap_append] using ho
section
variable {w w' : World} {B : Nat} {v : Value} {l : List Pc}
theorem OwnP.nil (w : World) (B : Nat) : OwnP w B (.slice none 0 0) [] := World.ownsRow_nil w B _ 3
theorem OwnP.drew (h : OwnP w B v l) : OwnP w.drew B v l := World.ownsRow.drew h
theorem OwnP.moved {z : Option Nat} (h : OwnP w B v l) (hg : w.grownBy w' z) (hv : v.ownBlock = none ∨ v.ownBlock ≠ z) : OwnP w' B v l := World.ownsRow.kept h hg hv
theorem OwnP.later (h : OwnP w B v l) (hb : Below w.heap.size w w') : OwnP w' B v l := by
  have hg : w.grownBy w' (some w.heap.size) := ⟨hb.os, hb.tape, hb.output, hb.size, fun i hi _ => hb.block i hi⟩
  refine h.moved hg (.inr ?_)
  intro e
  have := (World.ownsRow.lt h _ e).2
  omega
theorem OwnP.form (h : OwnP w B v l) (hn : 0 < l.length) : ∃ g cap, v = .slice (some ⟨g, 0, none⟩) l.length cap ∧ B ≤ g ∧ l.length ≤ cap := by
  obtain ⟨_, h2⟩ := h
  rcases h2 with ⟨rfl, h0⟩ | ⟨g, cap, cur, rfl, hg, hh, hnc, _⟩
  · omega
  · exact ⟨g, cap, rfl, hg, hnc⟩
end
theorem pc_at : ∀ (l : List Pc) (i : Nat) (p : Pc), l[i]? = some p → (l.flatMap Pc.cells)[i * 3]? = some (.int .u8 (n8 p.k)) ∧ (l.flatMap Pc.cells)[i * 3 + 1]? = some p.v ∧ (l.flatMap Pc.cells)[i * 3 + 2]? = some (.int .i64 p.pad)
  | [], i, p, h => by simp at h
  | q :: r, 0, p, h => by simp at h; subst h; simp [Pc.cells]
  | q :: r, i + 1, p, h => by
    have ih := pc_at r i p (by simpa using h)
    have e : ∀ j, ((q :: r).flatMap Pc.cells)[(i + 1) * 3 + j]? = (r.flatMap Pc.cells)[i * 3 + j]? := fun j => by
      rw [List.flatMap_cons, List.getElem?_append_right (by simp [Pc.cells]; omega)]
      congr 1
      simp [Pc.cells]; omega
    exact ⟨(e 0).trans ih.1, (e 1).trans ih.2.1, (e 2).trans ih.2.2⟩
theorem OwnP.cell {w : World} {B g cap : Nat} {l : List Pc} (h : OwnP w B (.slice (some ⟨g, 0, none⟩) l.length cap) l) (i : Nat) (p : Pc) (hi : l[i]? = some p) :
    w.cell? ⟨g, i * 3, none⟩ = some (.int .u8 (n8 p.k)) ∧ w.cell? ⟨g, i * 3 + 1, none⟩ = some p.v ∧ w.cell? ⟨g, i * 3 + 2, none⟩ = some (.int .i64 p.pad) := by
  have hl : i < l.length := (List.getElem?_eq_some_iff.1 hi).1
  obtain ⟨h0, h1, h2⟩ := pc_at l i p hi
  exact ⟨(World.ownsRow.cellAt h (i * 3) (by omega)).trans h0, (World.ownsRow.cellAt h (i * 3 + 1) (by omega)).trans h1, (World.ownsRow.cellAt h (i * 3 + 2) (by omega)).trans h2⟩
end Go.Proofs.Ytbcboldepghgpaa
