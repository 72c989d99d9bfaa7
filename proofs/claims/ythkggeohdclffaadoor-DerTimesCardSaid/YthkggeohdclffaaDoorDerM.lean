/-
  Own slices of texts; laws of single operations in drawn regions.
-/
import Derived.Test.YthkggeohdclffaaDoorDerJ
import Derived.Test.YthkggeohdclffaaDoorDerK
import Derived.Test.YthkggeohdclffaaDoorDerF
set_option linter.unusedVariables false
set_option linter.unusedSimpArgs false
set_option maxRecDepth 100000
namespace Go.Proofs.YthkggeohdclffaaDoor
open Go.RowKit
namespace Der
section
variable {P : Program} {w : World} {o : Oper} {ρ : Operand → Value} {x y : Operand} {t e rt : TypeId}
theorem index (ho : o.op = .indexAddr t x y) (ht : P.underlying t = some (.slice e)) {m : Nat} (hs : (P.info? e).map (·.size) = some m) (ad : Addr) (n c k : Nat)
    (hx : ρ x = .slice (some ad) n c) (hy : ρ y = .int .i64 (k : Int)) (hk : k < n) : (execOp ρ o).run P w = .ok (.value (.pointer (some (ad.add (k * m))))) w := by
  have hkn : (k : Int) < (n : Int) := by omega
  unfold execOp
  simp only [ho, hx, hy]
  simp [Instr.indexAt, run_underlying ht, asIntOf, run_sizeOf hs, hkn]
  omega
theorem ld (hty : ((P.underlying t).map isAggD) = some false) (ho : o.op = .load t x) (ad : Addr) (v : Value) (hx : ρ x = .pointer (some ad)) (h : w.cell? ad = some v) : (execOp ρ o).run P w = .ok (.value v) w :=
  run_execOp_load ho hx (run_ldc hty ad v h)
theorem fieldA {i : Nat} {v r : Value} (ho : o.op = .fieldAddr t x i) (hx : ρ x = v) (h : ∀ w, (Instr.fieldAt t v i).run P w = .ok r w) : (execOp ρ o).run P w = .ok (.value r) w := by
  unfold execOp
  simp only [ho, hx]
  simp [h]
end
theorem sz8 : (Tryd.prog.info? 5).map (·.size) = some 1 := by kernel_rfl
theorem szS : (Tryd.prog.info? 22).map (·.size) = some 1 := by kernel_rfl
theorem szI : (Tryd.prog.info? 25).map (·.size) = some 4 := by kernel_rfl
theorem na8 : ((Tryd.prog.underlying 5).map isAggD) = some false := by kernel_rfl
theorem naS : ((Tryd.prog.underlying 22).map isAggD) = some false := by kernel_rfl
theorem text_info : (Tryd.prog.info? 22).map (fun i => (i.zero, i.size, i.bytes)) = some (some (.slice none 0 0), 1, 24) := by kernel_rfl
theorem und_texts : Tryd.prog.underlying 36 = some (.slice 22) := by kernel_rfl
/-- A slice of one slice is made. -/
theorem build1 {w : World} {o : Oper} {ρ : Operand → Value} {x : Operand} (ho : o.op = .buildSlice 36 1 #[(0, x)]) (A : Option Addr) (a1 a2 : Nat) (hx : ρ x = .slice A a1 a2) :
    (execOp ρ o).run Tryd.prog w = .ok (.value (.slice (some ⟨w.heap.size, 0, none⟩) 1 1)) (w.alloc (.cells #[.slice A a1 a2] 22)) := by
  unfold execOp
  simp only [ho]
  simp [go_sem, Instr.buildSlice, und_texts, hx, run_underlying und_texts]
theorem enter_put (args : Array Value) (w : World) : (callFunc 9 args).run Tryd.prog w = .ok (.enter 9 args) w := by kernel_rfl
/-- A text's slice. -/
def sl (p : Part) : Value := .slice p.D p.n p.d
/-- An own slice of texts, each its own. -/
structure OwnW (w : World) (B : Nat) (v : Value) (ps : List Part) : Prop where
  own : w.ownsRow B 22 1 v ps.length (ps.map sl)
  bodies : ∀ p ∈ ps, OwnB w B (sl p) p.t
theorem OwnW.nil (w : World) (B : Nat) : OwnW w B (.slice none 0 0) [] := ⟨World.ownsRow_nil w B _ 1, fun _ h => absurd h List.not_mem_nil⟩
theorem OwnW.drew {w : World} {B : Nat} {v : Value} {ps : List Part} (h : OwnW w B v ps) : OwnW w.drew B v ps := ⟨h.own.drew, fun p hp => (h.bodies p hp).drew⟩
theorem OwnW.form {w : World} {B : Nat} {v : Value} {ps : List Part} (h : OwnW w B v ps) : ∃ A c, v = .slice A ps.length c := by
  rcases h.own.2 with ⟨rfl, h0⟩ | ⟨g, cap, cur, rfl, _⟩
  · exact ⟨none, 0, by rw [h0]⟩
  · exact ⟨_, _, rfl⟩
theorem OwnW.lt {w : World} {B : Nat} {v : Value} {ps : List Part} (h : OwnW w B v ps) : ∀ g, v.ownBlock = some g → B ≤ g ∧ g < w.heap.size := by
  intro g hg
  rcases h.own.2 with ⟨rfl, _⟩ | ⟨g', cap, cur, rfl, hb, hh, _⟩
  · cases hg
  · have e2 : g' = g := by injection hg
    subst e2
    refine ⟨hb, ?_⟩
    rcases Nat.lt_or_ge g' w.heap.size with hlt | hge
    · exact hlt
    · rw [Array.getElem?_eq_none hge] at hh; cases hh
theorem OwnW.later {w w' : World} {B : Nat} {v : Value} {ps : List Part} (h : OwnW w B v ps) (hb : Below w.heap.size w w') : OwnW w' B v ps := by
  have hg : w.grownBy w' (some w.heap.size) := ⟨hb.os, hb.tape, hb.output, hb.size, fun i hi _ => hb.block i hi⟩
  refine ⟨h.own.kept hg (.inr ?_), fun y hy => (h.bodies y hy).later hb⟩
  intro e
  have := (h.lt _ e).2
  omega
/-- A text more. -/
theorem OwnW.app {w w' : World} {B : Nat} {v v' : Value} {ps : List Part} {p : Part} (h : OwnW w B v ps) (hp : OwnB w B (sl p) p.t) (hg : w.grownBy w' v.ownBlock) (hown : w'.ownsRow B 22 1 v' (ps ++ [p]).length ((ps ++ [p]).map sl)) : OwnW w' B v' (ps ++ [p]) := by
  have key : ∀ q : Part, OwnB w B (sl q) q.t → OwnB w' B (sl q) q.t := fun q hb => ⟨hb.own.kept hg (own_types hb.own h.own (by decide))⟩
  refine ⟨hown, fun q hq => ?_⟩
  rcases List.mem_append.1 hq with h1 | h1
  · exact key q (h.bodies q h1)
  · obtain rfl : q = p := by simpa using h1
    exact key q hp
/-- A slice of bytes v grows; the texts lie elsewhere. -/
theorem OwnW.beside {w w' : World} {B : Nat} {v u : Value} {ps : List Part} {l : List UInt8} (h : OwnW w B v ps) (hu : OwnB w B u l) (hg : w.grownBy w' u.ownBlock) (hf : ∀ p ∈ ps, (sl p).ownBlock = none ∨ (sl p).ownBlock ≠ u.ownBlock) : OwnW w' B v ps :=
  ⟨h.own.kept hg (own_types h.own hu.own (by decide)), fun q hq => ⟨(h.bodies q hq).own.kept hg (hf q hq)⟩⟩
theorem wpl_appW {w : World} {ops : Array Oper} {rest : List Oper} {o : Oper} {a : Act} {Q : Exit → Act → World → Prop} (hgd : o.guard = none) (s x : Operand) (ho : o.op = .call { callee := .builtin .append, args := #[s, x], argTypes := #[36, 36] })
    (B : Nat) (v : Value) (ps : List Part) (hs : a.eval s = v) (hown : OwnW w B v ps) (p : Part) (hp : OwnB w B (sl p) p.t) (ad : Addr) (hx : a.eval x = .slice (some ad) 1 1) (hc : w.cell? ad = some (sl p)) (had : ad.block < w.heap.size) (hl : ps.length + 1 ≤ 1000000) (hB : B ≤ w.heap.size)
    (h : ∀ v' w', OwnW w' B v' (ps ++ [p]) → w.grownBy w' v.ownBlock → wpList Tryd.prog ops Q rest (a.put o.dst v') w') : wpList Tryd.prog ops Q (o :: rest) a w := by
  obtain ⟨i0, hi, hz, hs1, hb⟩ := info_parts text_info
  refine wpList_append_any w hgd s x 36 ho B 22 i0 _ 1 24 und_texts hi hz hs1 hb rfl (by decide) v ps.length (ps.map sl) hs hown.own w.heap.size (some ad) 1 1 [sl p] hx ⟨rfl, fun _ => ⟨ad, rfl, had, fun j u hu => ?_⟩⟩ ?_ (by unfold maxLen; omega) (by omega) hB (fun v' w' h1 h2 _ => ?_)
  · cases j with
    | zero =>
      injection hu with hu
      subst hu
      rw [Addr.add_zero']
      exact hc
    | succ j => cases hu
  · intro u hu
    obtain rfl : u = sl p := by simpa using hu
    rfl
  · exact h v' w' (hown.app hp h2 (by rw [List.length_append, List.map_append]; exact h1)) h2
end Der
end Go.Proofs.YthkggeohdclffaaDoor
