/-
  What is known of the world in a drawn region: slices that read as they do; a slice of one's own.
-/
import Derived.Test.YthkggeohdclffaaDoorHeldQ
import Derived.Test.YthkggeohdclffaaDoorParts
set_option linter.unusedVariables false
set_option linter.unusedSimpArgs false
set_option maxRecDepth 100000
namespace Go.Proofs.YthkggeohdclffaaDoor
open Go.RowKit
/-- All of w0 is as it was, the slices fs read as they do, and so do the slices of texts qs. -/
structure Held (w0 : World) (fs : List Part) (qs : List (Nat × List Part)) (W : World) : Prop where
  old : Below w0.heap.size w0 W
  reads : ∀ f ∈ fs, ReadsB W W.heap.size f.D f.n f.t
  parts : ∀ q ∈ qs, Parts W W.heap.size (some ⟨q.1, 0, none⟩) q.2.length q.2
section
variable {w0 W W' : World} {fs : List Part} {qs : List (Nat × List Part)}
theorem Held.nil (h : Below w0.heap.size w0 W) : Held w0 [] [] W := ⟨h, fun _ h => (by cases h), fun _ h => (by cases h)⟩
theorem Held.below (h : Held w0 fs qs W) (hE : Below W.heap.size W W') : Held w0 fs qs W' :=
  ⟨h.old.trans (hE.mono h.old.size), fun f hf => ⟨(h.reads f hf).len, ((h.reads f hf).is.below hE).more hE.size⟩, fun q hq => ((h.parts q hq).below hE).wide hE.size⟩
theorem Held.cons {f : Part} (h : Held w0 fs qs W) (hr : ReadsB W W.heap.size f.D f.n f.t) : Held w0 (f :: fs) qs W :=
  ⟨h.old, fun f' hf => (by rcases List.mem_cons.1 hf with rfl | hf; exact hr; exact h.reads _ hf), h.parts⟩
theorem Held.tail {f : Part} (h : Held w0 (f :: fs) qs W) : Held w0 fs qs W := ⟨h.old, fun f' hf => h.reads f' (List.mem_cons_of_mem _ hf), h.parts⟩
theorem Held.consP {q : Nat × List Part} (h : Held w0 fs qs W) (hr : Parts W W.heap.size (some ⟨q.1, 0, none⟩) q.2.length q.2) : Held w0 fs (q :: qs) W :=
  ⟨h.old, h.reads, fun f' hf => (by rcases List.mem_cons.1 hf with rfl | hf; exact hr; exact h.parts _ hf)⟩
theorem Held.tailP {q : Nat × List Part} (h : Held w0 fs (q :: qs) W) : Held w0 fs qs W := ⟨h.old, h.reads, fun f' hf => h.parts f' (List.mem_cons_of_mem _ hf)⟩
theorem Held.reads0 (h : Held w0 fs qs W) {A : Option Addr} {n : Nat} {l : List UInt8} (hr : ReadsB w0 w0.heap.size A n l) : ReadsB W W.heap.size A n l := ⟨hr.len, (hr.is.below h.old).more h.old.size⟩
end
/-- A slice of one's own that none of fs lies in. -/
structure Mine (w0 : World) (fs : List Part) (v : Value) (l : List UInt8) (W : World) : Prop where
  held : Held w0 fs [] W
  own : ∃ B, OwnB W B v l ∧ w0.heap.size ≤ B ∧ B ≤ W.heap.size
  away : ∀ f ∈ fs, 0 < f.n → ∀ ad, f.D = some ad → Value.ownBlock v ≠ some ad.block
section
variable {w0 W W' : World} {fs : List Part} {v : Value} {l : List UInt8}
/-- A call that makes a slice of its own. -/
theorem Mine.call {f : Part} (h : Mine w0 fs v l W) (hE : Below W.heap.size W W') (hf : OwnB W' W.heap.size (.slice f.D f.n f.d) f.t) (hr : ReadsB W' W'.heap.size f.D f.n f.t) : Mine w0 (f :: fs) v l W' := by
  obtain ⟨B, ho, h1, h2⟩ := h.own
  refine ⟨(h.held.below hE).cons hr, ⟨B, ho.later hE, h1, Nat.le_trans h2 hE.size⟩, fun f' hf' hn ad e => ?_⟩
  rcases List.mem_cons.1 hf' with rfl | hf'
  · intro e2
    have h3 := (ho.own.lt _ e2).2
    have h4 : Value.ownBlock (.slice f'.D f'.n f'.d) = some ad.block := by
      rcases hf.own.2 with ⟨e3, h0⟩ | ⟨g, cap, cur, e3, _⟩
      · injection e3 with e3 e4 _; omega
      · rw [e3]; injection e3 with e3 _ _; rw [e] at e3; injection e3 with e3; rw [e3]; rfl
    have h5 := (hf.own.lt _ h4).1
    omega
  · exact h.away f' hf' hn ad e
/-- An append onto it. -/
theorem Mine.append {v' : Value} {l' : List UInt8} {B : Nat} (h : Mine w0 fs v l W) (hown : OwnB W B v l) (h1 : w0.heap.size ≤ B) (h2 : B ≤ W.heap.size) (hg : W.grownBy W' (Value.ownBlock v)) (hat : Value.ownBlock v' = Value.ownBlock v ∨ Value.ownBlock v' = some W.heap.size) (ho : OwnB W' B v' l') : Mine w0 fs v' l' W' := by
  refine ⟨⟨below_appended h.held.old hown hg h1 (Nat.le_trans h1 h2), fun f hf => ?_, fun _ h => (by cases h)⟩, ⟨B, ho, h1, Nat.le_trans h2 hg.size⟩, fun f hf hn ad e => ?_⟩
  · have hr := h.held.reads f hf
    have h3 := reads_away hr hg (Nat.le_refl _) (h.away f hf)
    exact ⟨h3.len, h3.is.more hg.size⟩
  · rcases hat with e2 | e2
    · rw [e2]; exact h.away f hf hn ad e
    · rw [e2]
      intro e3
      injection e3 with e3
      obtain ⟨a2, e4, h4, _⟩ := (h.held.reads f hf).is.2 hn
      rw [e] at e4
      injection e4 with e4
      subst e4
      omega
theorem Mine.new (h : Held w0 fs [] W) : Mine w0 fs (.slice (some ⟨W.heap.size, 0, none⟩) 0 0) [] (W.alloc (.cells #[] 5)) := by
  have hE : Below W.heap.size W (W.alloc (.cells #[] 5)) := (Below.refl _ _).alloc (Nat.le_refl _) _
  refine ⟨h.below hE, ⟨W.heap.size, OwnB.empty (Nat.le_refl _), h.old.size, hE.size⟩, fun f hf hn ad e => ?_⟩
  intro e2
  have e3 : W.heap.size = ad.block := by injection e2
  obtain ⟨a2, e4, h4, _⟩ := (h.reads f hf).is.2 hn
  rw [e] at e4
  injection e4 with e4
  subst e4
  omega
/-- The own slice, read from now on. -/
theorem Mine.read {A : Option Addr} {n c : Nat} (h : Mine w0 fs (.slice A n c) l W) : Held w0 (⟨A, n, c, l⟩ :: fs) [] W := by
  obtain ⟨B, ho, _, _⟩ := h.own
  have hr := ho.reads_any
  exact h.held.cons ⟨hr.1.symm, hr.2.is⟩
end
end Go.Proofs.YthkggeohdclffaaDoor
