/-
  A drawn region whose calls make memory of their own: what is known of the world is a word that only grows (a predicate); what only reads is taken first.
-/
import Derived.Test.YtbcboldepghgpaaGreatDoorHeldV
import Derived.Test.YtbcboldepghgpaaGreatDoorSchB
set_option linter.unusedVariables false
set_option linter.unusedSimpArgs false
set_option maxRecDepth 100000
namespace Go.Proofs.YtbcboldepghgpaaGreatDoor
open Go.RowKit
abbrev Word := (World → Prop) × (World → Prop)
def PW (g : Word) (W : World) : Prop := g.1 W ∧ g.2 W
def PR (g g' : Word) : Prop := ∀ W, g'.1 W → g.1 W
theorem PR.rf (g : Word) : PR g g := fun _ h => h
theorem PR.tr (x y z : Word) (h : PR x y) (h' : PR y z) : PR x z := fun W h1 => h W (h' W h1)
section
variable {P : Program} {ops : Array Oper} {Q : Exit → Act → World → Prop} {md : Region.Mode} {o o' : Oper} {fuel : Nat} {listed : Array Bool} {a : Act} {g x : World → Prop} {w : World}
theorem p_take (i : Nat) (hi : ops[i]? = some o) (hs : Region.noSelect ops = true) (hf : Region.free md ops listed i = true) (hr : (Region.ready md ops listed).contains i = true) (hw : Region.wanted o (yielded ops a.tmps) = true) (v : Value) (hQ : ∀ c a w, Q (.panic c) (a.put o.dst v) w → Q (.panic c) a w)
    (hrun : ∀ W, g W → (execOp a.eval o).run P W = .ok (.value v) W) (h : wpAnyV P md ops Q PW PR fuel (listed.setIfInBounds i true) (a.put o.dst v) (g, x)) : wpAnyV P md ops Q PW PR (fuel + 1) listed a (g, x) :=
  v_take PR.rf PR.tr i hi hs hf hr v hQ (gv_value hw (fun _ hg W hW => hrun W (hg W hW.1))) h
/-- An operation whose guard does not let it run. -/
theorem p_not (i : Nat) (hi : ops[i]? = some o) (hs : Region.noSelect ops = true) (hf : Region.free md ops listed i = true) (hr : (Region.ready md ops listed).contains i = true) (hw : Region.wanted o (yielded ops a.tmps) = false) (hQ : ∀ c a w, Q (.panic c) (a.put o.dst undef) w → Q (.panic c) a w)
    (h : wpAnyV P md ops Q PW PR fuel (listed.setIfInBounds i true) (a.put o.dst undef) (g, x)) : wpAnyV P md ops Q PW PR (fuel + 1) listed a (g, x) :=
  v_take PR.rf PR.tr i hi hs hf hr undef hQ (.inr ⟨hw, rfl⟩) h
/-- What comes behind a step. -/
def Next (P : Program) (md : Region.Mode) (ops : Array Oper) (Q : Exit → Act → World → Prop) (fuel : Nat) (listed : Array Bool) (g : World → Prop) (a : Act) (w : World) : Prop :=
  ∃ g' x' : World → Prop, (∀ W, g' W → g W) ∧ g' w ∧ x' w ∧ wpAnyV P md ops Q PW PR fuel listed a (g', x')
theorem Next.mk (g' x' : World → Prop) (h1 : ∀ W, g' W → g W) (h2 : g' w) (hx : x' w) (h3 : wpAnyV P md ops Q PW PR fuel listed a (g', x')) : Next P md ops Q fuel listed g a w := ⟨g', x', h1, h2, hx, h3⟩
theorem Next.un (h : Next P md ops Q fuel listed g a w) : ∃ g', PR (g, x) g' ∧ PW g' w ∧ wpAnyV P md ops Q PW PR fuel listed a g' := by
  obtain ⟨g', x', h1, h2, h3, h4⟩ := h
  exact ⟨(g', x'), h1, ⟨h2, h3⟩, h4⟩
theorem p_one (i : Nat) (hr : Region.ready md ops listed = [i]) (h : ∀ W, g W → x W → wpOp P ops Q i (Next P md ops Q fuel (listed.setIfInBounds i true) g) a W) : wpAnyV P md ops Q PW PR (fuel + 1) listed a (g, x) := by
  refine ⟨fun h0 => (by rw [hr] at h0; cases h0), fun j hj W hW => ?_⟩
  rw [hr] at hj
  obtain rfl : j = i := by simpa using hj
  exact wpOp_mono (fun a' w' h => h.un) (h W hW.1 hW.2)
theorem p_two (i j : Nat) (hr : Region.ready md ops listed = [i, j]) (h : ∀ W, g W → x W → wpOp P ops Q i (Next P md ops Q fuel (listed.setIfInBounds i true) g) a W)
    (h' : ∀ W, g W → x W → wpOp P ops Q j (Next P md ops Q fuel (listed.setIfInBounds j true) g) a W) : wpAnyV P md ops Q PW PR (fuel + 1) listed a (g, x) := by
  refine ⟨fun h0 => (by rw [hr] at h0; cases h0), fun k hk W hW => ?_⟩
  rw [hr] at hk
  rcases List.mem_cons.1 hk with rfl | hk
  · exact wpOp_mono (fun a' w' h => h.un) (h W hW.1 hW.2)
  · obtain rfl : k = j := by simpa using hk
    exact wpOp_mono (fun a' w' h => h.un) (h' W hW.1 hW.2)
theorem op_call {i : Nat} {K : Act → World → Prop} (hi : ops[i]? = some o) (hw : Region.wanted o (yielded ops a.tmps) = true) (f : FuncId) (xs : Array Operand) (ats : Array TypeId) (ho : o.op = .call { callee := .value (.func f), args := xs, argTypes := ats }) (args : Array Value) (hargs : xs.map a.eval = args)
    (hfn : ∀ w, (callFunc f args).run P w = .ok (.enter f args) w) (h : Calls P f args w fun e w' => ∃ v, e = .returned v ∧ K (a.put o.dst v) w') : wpOp P ops Q i K a w := by
  unfold wpOp
  simp only [hi]
  rw [if_pos hw]
  left
  unfold Oper.wp
  have hx : (execOp a.eval o).run P w = .ok (.enter f args) w := by
    obtain ⟨dst, op, type, pos, after, guard⟩ := o
    subst ho
    show (execOp a.eval _).run P w = _
    rw [execOp_call_go]
    have e : #[] ++ xs.map a.eval ++ #[] = args := by rw [hargs]; simp
    rw [e]; exact hfn w
  rw [hx]
  refine h.mono ?_
  rintro e w' ⟨v, rfl, hK⟩
  exact hK
theorem op_do {i : Nat} {K : Act → World → Prop} (hi : ops[i]? = some o) (hw : Region.wanted o (yielded ops a.tmps) = true) (v : Value) (w2 : World) (hrun : (execOp a.eval o).run P w = .ok (.value v) w2) (h : K (a.put o.dst v) w2) : wpOp P ops Q i K a w := by
  unfold wpOp
  simp only [hi]
  rw [if_pos hw]
  left
  unfold Oper.wp
  rw [hrun]
  exact h
theorem p_done (hr : Region.ready md ops listed = []) (h : ∀ W, g W → Q .normal a W) (n : Nat) : wpAnyV P md ops Q PW PR n listed a (g, x) := v_done hr (fun W hW => h W hW.1) n
theorem p_start (g : World → Prop) {id : Nat} (hm : P.follows .mixedOrders = true) (hS : g w.drew) (h : wpAnyV P .any ops Q PW PR ops.size (Array.replicate ops.size false) a (g, fun _ => True)) : (Code.region id ops true).wp P Q a w := v_start PR (g, fun _ => True) hm ⟨hS, trivial⟩ h
end
theorem run_eqT {P : Program} {ρ : Operand → Value} {o : Oper} {x y : Operand} {t rt : TypeId} (ho : o.op = .binOp .eql t x y rt) (l m : List UInt8) (h : l = m) (hx : ρ x = .string (str l)) (hy : ρ y = .string (str m)) (w : World) :
    (execOp ρ o).run P w = .ok (.value (.bool true)) w := by
  rw [run_eqStr ho l m hx hy w, decide_eq_true h]
theorem run_neqF {P : Program} {ρ : Operand → Value} {o : Oper} {x y : Operand} {t rt : TypeId} (ho : o.op = .binOp .neq t x y rt) (l m : List UInt8) (h : l = m) (hx : ρ x = .string (str l)) (hy : ρ y = .string (str m)) (w : World) :
    (execOp ρ o).run P w = .ok (.value (.bool false)) w := by
  subst h
  have e : (binOp .neq t (.string (str l)) (.string (str l))).run P w = .ok (.bool false) w := by
    show (Op.stringOp .neq (str l) (str l)).run P w = _
    simp [Op.stringOp]
  unfold execOp
  have eg : (eqGuard .neq t x y (.string (str l)) (.string (str l))).run P w = .ok () w := rfl
  simp only [ho, hx, hy, Sem.run_bind]
  rw [eg, Result.andThen_ok, e]
  rfl
theorem op_appendB {P : Program} {K : Act → World → Prop} {Q : Exit → Act → World → Prop} {ops : Array Oper} {o : Oper} {a : Act} {w : World} {i : Nat} (hP : P = Tryz.prog) (hi : ops[i]? = some o) (hw : Region.wanted o (yielded ops a.tmps) = true) (s x : Operand)
    (ho : o.op = .call { callee := .builtin .append, args := #[s, x], argTypes := #[25, 25] })
    (B : Nat) (v : Value) (l : List UInt8) (hs : a.eval s = v) (hown : OwnB w B v l) (B' : Nat) (A : Option Addr) (m c : Nat) (ys : List UInt8) (hx : a.eval x = .slice A m c) (hr : ReadsB w B' A m ys)
    (hlen : l.length + ys.length ≤ 140737488355328) (hB : B ≤ w.heap.size)
    (h : ∀ v' w', OwnB w' B v' (l ++ ys) → w.grownBy w' v.ownBlock → (v'.ownBlock = v.ownBlock ∨ v'.ownBlock = some w.heap.size) → K (a.put o.dst v') w') : wpOp P ops Q i K a w := by
  subst hP
  unfold wpOp
  simp only [hi]
  rw [if_pos hw]
  left
  obtain ⟨i0, hi0, hz0, hz1, hz2⟩ := info_parts u8_info
  have hm := hr.len
  refine wp_append_any w s x _ ho B 5 i0 _ 1 1 Tryz.underlying25 hi0 hz0 hz1 hz2 rfl (by omega) v l.length (l.map U8) hs hown.own B' A m c (ys.map U8) hx hr.is (by simp [Value.oneCell']) (by unfold maxLen; omega) (by omega) hB ?_
  intro v' w' h1 h2 h3
  refine h v' w' ⟨?_⟩ h2 h3
  rw [List.length_append, hm, List.map_append]; exact h1
/-- All of w0 is as it was, the slices fs read as they do, and so do the slices of texts qs. -/
structure Held (w0 : World) (fs : List Part) (qs : List (Nat × List Part)) (W : World) : Prop where
  old : Below w0.heap.size w0 W
  reads : ∀ f ∈ fs, ReadsB W W.heap.size f.D f.n f.t
  parts : ∀ q ∈ qs, Parts W W.heap.size (some ⟨q.1, 0, none⟩) q.2.length q.2
section
variable {w0 W W' : World} {fs : List Part} {qs : List (Nat × List Part)}
theorem Held.nil (h : Below w0.heap.size w0 W) : Held w0 [] [] W := ⟨h, fun _ h => (by cases h), fun _ h => (by cases h)⟩
theorem Held.below (h : Held w0 fs qs W) (hE : Below W.heap.size W W') : Held w0 fs qs W' :=
  ⟨h.old.trans (hE.mono h.old.size), fun f hf => ⟨(h.reads f hf).len, ((h.reads f hf).is.below hE).more hE.size⟩, fun q hq => ((h.parts q hq).below hE).wide hE.size⟩
theorem Held.cons {f : Part} (h : Held w0 fs qs W) (hr : ReadsB W W.heap.size f.D f.n f.t) : Held w0 (f :: fs) qs W :=
  ⟨h.old, fun f' hf => (by rcases List.mem_cons.1 hf with rfl | hf; exact hr; exact h.reads _ hf), h.parts⟩
theorem Held.tail {f : Part} (h : Held w0 (f :: fs) qs W) : Held w0 fs qs W := ⟨h.old, fun f' hf => h.reads f' (List.mem_cons_of_mem _ hf), h.parts⟩
theorem Held.consP {q : Nat × List Part} (h : Held w0 fs qs W) (hr : Parts W W.heap.size (some ⟨q.1, 0, none⟩) q.2.length q.2) : Held w0 fs (q :: qs) W :=
  ⟨h.old, h.reads, fun f' hf => (by rcases List.mem_cons.1 hf with rfl | hf; exact hr; exact h.parts _ hf)⟩
theorem Held.tailP {q : Nat × List Part} (h : Held w0 fs (q :: qs) W) : Held w0 fs qs W := ⟨h.old, h.reads, fun f' hf => h.parts f' (List.mem_cons_of_mem _ hf)⟩
theorem Held.reads0 (h : Held w0 fs qs W) {A : Option Addr} {n : Nat} {l : List UInt8} (hr : ReadsB w0 w0.heap.size A n l) : ReadsB W W.heap.size A n l := ⟨hr.len, (hr.is.below h.old).more h.old.size⟩
theorem Held.tabs (h : Held w0 fs qs W) (htb : Tabs w0) : Tabs W := htb.below h.old
end
/-- A slice of one's own that none of fs lies in. -/
structure Mine (w0 : World) (fs : List Part) (v : Value) (l : List UInt8) (W : World) : Prop where
  held : Held w0 fs [] W
  own : ∃ B, OwnB W B v l ∧ w0.heap.size ≤ B ∧ B ≤ W.heap.size
  away : ∀ f ∈ fs, 0 < f.n → ∀ ad, f.D = some ad → Value.ownBlock v ≠ some ad.block
section
variable {w0 W W' : World} {fs : List Part} {v : Value} {l : List UInt8}
/-- A call that makes a slice of its own. -/
theorem Mine.call {f : Part} (h : Mine w0 fs v l W) (hE : Below W.heap.size W W') (hf : OwnB W' W.heap.size (.slice f.D f.n f.d) f.t) (hr : ReadsB W' W'.heap.size f.D f.n f.t) : Mine w0 (f :: fs) v l W' := by
  obtain ⟨B, ho, h1, h2⟩ := h.own
  refine ⟨(h.held.below hE).cons hr, ⟨B, ho.later hE, h1, Nat.le_trans h2 hE.size⟩, fun f' hf' hn ad e => ?_⟩
  rcases List.mem_cons.1 hf' with rfl | hf'
  · intro e2
    have h3 := (ho.own.lt _ e2).2
    have h4 : Value.ownBlock (.slice f'.D f'.n f'.d) = some ad.block := by
      rcases hf.own.2 with ⟨e3, h0⟩ | ⟨g, cap, cur, e3, _⟩
      · injection e3 with e3 e4 _; omega
      · rw [e3]; injection e3 with e3 _ _; rw [e] at e3; injection e3 with e3; rw [e3]; rfl
    have h5 := (hf.own.lt _ h4).1
    omega
  · exact h.away f' hf' hn ad e
/-- An append onto it. -/
theorem Mine.append {v' : Value} {l' : List UInt8} {B : Nat} (h : Mine w0 fs v l W) (hown : OwnB W B v l) (h1 : w0.heap.size ≤ B) (h2 : B ≤ W.heap.size) (hg : W.grownBy W' (Value.ownBlock v)) (hat : Value.ownBlock v' = Value.ownBlock v ∨ Value.ownBlock v' = some W.heap.size) (ho : OwnB W' B v' l') : Mine w0 fs v' l' W' := by
  refine ⟨⟨below_appended h.held.old hown hg h1 (Nat.le_trans h1 h2), fun f hf => ?_, fun _ h => (by cases h)⟩, ⟨B, ho, h1, Nat.le_trans h2 hg.size⟩, fun f hf hn ad e => ?_⟩
  · have hr := h.held.reads f hf
    have h3 := reads_away hr hg (Nat.le_refl _) (h.away f hf)
    exact ⟨h3.len, h3.is.more hg.size⟩
  · rcases hat with e2 | e2
    · rw [e2]; exact h.away f hf hn ad e
    · rw [e2]
      intro e3
      injection e3 with e3
      obtain ⟨a2, e4, h4, _⟩ := (h.held.reads f hf).is.2 hn
      rw [e] at e4
      injection e4 with e4
      subst e4
      omega
theorem Mine.new (h : Held w0 fs [] W) : Mine w0 fs (.slice (some ⟨W.heap.size, 0, none⟩) 0 0) [] (W.alloc (.cells #[] 5)) := by
  have hE : Below W.heap.size W (W.alloc (.cells #[] 5)) := (Below.refl _ _).alloc (Nat.le_refl _) _
  refine ⟨h.below hE, ⟨W.heap.size, OwnB.empty (Nat.le_refl _), h.old.size, hE.size⟩, fun f hf hn ad e => ?_⟩
  intro e2
  have e3 : W.heap.size = ad.block := by injection e2
  obtain ⟨a2, e4, h4, _⟩ := (h.reads f hf).is.2 hn
  rw [e] at e4
  injection e4 with e4
  subst e4
  omega
/-- The own slice, read from now on. -/
theorem Mine.read {A : Option Addr} {n c : Nat} (h : Mine w0 fs (.slice A n c) l W) : Held w0 (⟨A, n, c, l⟩ :: fs) [] W := by
  obtain ⟨B, ho, _, _⟩ := h.own
  have hr := ho.reads_any
  exact h.held.cons ⟨hr.1.symm, hr.2.is⟩
end
end Go.Proofs.YtbcboldepghgpaaGreatDoor
