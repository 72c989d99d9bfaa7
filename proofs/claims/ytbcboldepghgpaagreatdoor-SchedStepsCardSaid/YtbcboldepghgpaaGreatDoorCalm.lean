/-
  A region that draws its order and whose operations keep to a class of worlds (loads, arithmetic, calls that make memory of their own but give one value): walked once, in the order of the text; a last operation, or a last few in one forced order, may write.
-/
import Derived.Test.YtbcboldepghgpaaGreatDoorHeldB
import Derived.StillTail
import Derived.BigQuiet
set_option linter.unusedVariables false
set_option linter.unusedSimpArgs false
set_option maxRecDepth 100000
namespace Go.Proofs.YtbcboldepghgpaaGreatDoor
open Go.RowKit
/-- A world of the class, as one thing. -/
structure Calm (C : World → Prop) where
  w : World
  ok : C w
/-- The class itself, said so that a walk sees one variable. -/
def InC (C : World → Prop) (w : World) : Prop := ∃ x : Calm C, w = x.w
section
variable {P : Program} {C : World → Prop} {ops : Array Oper} {md : Region.Mode}
theorem Calm.call {f : FuncId} {args : Array Value} {v : Value} {w : World} (h : Calls P f args w fun e w' => e = .returned v ∧ C w') : Calls P f args w fun e w' => e = .returned v ∧ ∃ y : Calm C, w' = y.w :=
  h.mono fun _ w' ⟨he, hc⟩ => ⟨he, ⟨w', hc⟩, rfl⟩
/-- The head: f operations, each below number n, then L. -/
def headQ (P : Program) (md : Region.Mode) (ops : Array Oper) (D : World → Prop) (n : Nat) (L : Array Bool → Act → Prop) : Nat → Array Bool → Act → Prop
  | 0, listed, a => L listed a
  | f + 1, listed, a => Region.ready md ops listed ≠ [] ∧ ∀ i ∈ Region.ready md ops listed, i < n ∧ qOp P ops D i (headQ P md ops D n L f (listed.setIfInBounds i true)) a
variable {D : World → Prop}
theorem headQ_any {n g : Nat} {L : Array Bool → Act → Prop} {Q : Exit → Act → World → Prop} (hL : ∀ listed a, L listed a → ∀ w, D w → wpAny P md ops Q g listed a w) :
    ∀ (f : Nat) (listed : Array Bool) (a : Act) (w : World), D w → headQ P md ops D n L f listed a → wpAny P md ops Q (f + g) listed a w := by
  intro f
  induction f with
  | zero => intro listed a w hw h; rw [Nat.zero_add]; exact hL _ _ h w hw
  | succ f ih =>
    intro listed a w hw h
    rw [Nat.add_right_comm]
    exact ⟨fun h0 => absurd h0 h.1, fun i hi => wpOp_of_qOp hw (fun a' w' hw' h' => ih _ a' w' hw' h') (h.2 i hi).2⟩
theorem headQ_first {n k : Nat} {o : Oper} {v : Value} {L : Array Bool → Act → Prop} (ho : ops[k]? = some o) (hsel : Region.noSelect ops = true) (hs : Region.sinkB md ops n = true) (hc : Region.chainB md ops n = true) (hn : n < ops.size) (hk : k < n)
    (hend : ∀ listed a, L listed a → ∀ j ∈ Region.ready md ops listed, n ≤ j) :
    ∀ (f : Nat) (listed : Array Bool) (a : Act), HeadInv md ops n listed →
      (∀ j oj, ops[j]? = some oj → j ≠ k → listed.getD j true = false → (∀ e ∈ oj.after, Region.binds md e = true → e.on ≠ k) → o.apart ops oj = true) →
      k ∈ Region.ready md ops listed → YieldsIn P ops D o v a → headQ P md ops D n L f (listed.setIfInBounds k true) (a.put o.dst v) → headQ P md ops D n L (f + 1) listed a := by
  have sel := Region.noSelect_spec hsel
  intro f
  induction f with
  | zero =>
    intro listed a inv _ hr hy H
    refine ⟨fun h0 => (by rw [h0] at hr; cases hr), fun j hj => ?_⟩
    have hjn : j < n := Nat.lt_of_not_le fun h' => tail_waits hs hc hn inv _ k rfl hk (mem_ready.1 hr).1 j h' hj
    refine ⟨hjn, ?_⟩
    rcases Nat.decEq j k with hne | rfl
    · exact absurd (hend _ _ H j (ready_mono hj hne)) (by omega)
    · exact hy.qOp ho H
  | succ f ih =>
    intro listed a inv hfree hr hy H
    refine ⟨fun h0 => (by rw [h0] at hr; cases hr), fun j hj => ?_⟩
    have hjn : j < n := Nat.lt_of_not_le fun h' => tail_waits hs hc hn inv _ k rfl hk (mem_ready.1 hr).1 j h' hj
    refine ⟨hjn, ?_⟩
    rcases Nat.decEq j k with hne | rfl
    · obtain ⟨hun, oj, hoj, hall⟩ := mem_ready.1 hj
      have hno : ∀ e ∈ oj.after, Region.binds md e = true → e.on ≠ k := fun e he hb heq => by
        have h1 := hall e he hb
        rw [heq, getD_both (mem_ready.1 hr).1] at h1
        exact absurd h1 (by simp)
      have h2 := qOp_put hoj (hfree j oj hoj hne hun hno) (fun cs b => sel k o cs b ho) (fun cs b => sel j oj cs b hoj) hy (H.2 j (ready_mono hj hne)).2
      refine qOp_mono (fun a' h3 => ih (listed.setIfInBounds j true) a' (inv.set hj hjn) (fun m om hm hmk hum hnm => hfree m om hm hmk ?_ hnm) (ready_mono hr (Ne.symm hne)) h3.1 ?_) h2
      · rcases Nat.decEq j m with hjm | rfl
        · rw [getD_set_ne true hjm] at hum; exact hum
        · exact hun
      · rw [Array.setIfInBounds_comm _ _ hne]; exact h3.2
    · exact hy.qOp ho H
theorem headQ_lex {n g : Nat} {K : Act → Prop} (hsel : Region.noSelect ops = true) (hs : Region.sinkB md ops n = true) (hc : Region.chainB md ops n = true) (hn : n < ops.size) :
    ∀ (l : List Oper) (k : Nat) (listed : Array Bool) (a : Act), (∀ j, j < l.length → l[j]? = ops[k + j]?) → k + l.length = n → HeadInv md ops n listed → Region.lexHead md ops g l.length k listed = true →
    wpQuiet P ops D K l a → headQ P md ops D n (fun listed' a' => Region.seqB md ops g n listed' = true ∧ K a') l.length listed a := by
  intro l
  induction l with
  | nil =>
    intro k listed a _ hk _ hB h
    obtain rfl : k = n := hk
    exact ⟨hB, h⟩
  | cons o l ih =>
    intro k listed a hl hk inv hB h
    have ho : ops[k]? = some o := (hl 0 (Nat.zero_lt_succ _)).symm
    simp only [List.length_cons, Region.lexHead, Bool.and_eq_true] at hB hk ⊢
    have hr : k ∈ Region.ready md ops listed := by simpa using hB.1.1
    have hq : qOp P ops D k (wpQuiet P ops D K l) a := by unfold qOp; rw [ho]; exact h
    obtain ⟨v, hy, hK⟩ := yieldsIn_of_qOp ho hq
    refine headQ_first ho hsel hs hc hn (by omega) (fun _ _ hL => seqB_ready hL.1) l.length listed a inv (Region.free_spec ho hB.1.2) hr hy (ih (k + 1) _ _ (fun j hj => ?_) (by omega) (inv.set hr (by omega)) hB.2 hK)
    rw [Nat.add_assoc, Nat.add_comm 1 j]
    exact hl (j + 1) (Nat.succ_lt_succ hj)
end
section
variable {P : Program} {Q : Exit → Act → World → Prop} {a : Act} {w : World} {l : List Oper} {id : Nat}
/-- All keep to the class. -/
theorem region_calm (C : World → Prop) (hm : P.follows .mixedOrders = true) (hB : Region.lexB .any l.toArray = true) (hC : C w.drew)
    (h : Nonempty (Calm C) → wpQuiet P l.toArray (fun w' => ∃ x : Calm C, w' = x.w) (fun a' => ∀ x : Calm C, Q .normal a' x.w) l a) : (Code.region id l.toArray true).wp P Q a w := by
  refine wp_region_quiet (C := fun w' => ∃ x : Calm C, w' = x.w) hm hB ⟨⟨_, hC⟩, rfl⟩ ?_
  have h' := h ⟨⟨_, hC⟩⟩
  have e : (fun a' => ∀ x : Calm C, Q .normal a' x.w) = (fun a' => ∀ w', (∃ x : Calm C, w' = x.w) → Q .normal a' w') := by
    funext a'
    exact propext ⟨fun h w' ⟨x, e⟩ => e ▸ h x, fun h x => h _ ⟨x, rfl⟩⟩
  rw [e] at h'
  exact h'
/-- The first n keep to the class; what follows runs in one order, from any world of the class. -/
theorem region_calm_tail (C : World → Prop) (n : Nat) (hm : P.follows .mixedOrders = true) (hB : Region.lexTailB .any l.toArray n = true) (hC : C w.drew)
    (h : Nonempty (Calm C) → wpQuiet P l.toArray (fun w' => ∃ x : Calm C, w' = x.w) (fun a' => ∀ x : Calm C, wpList P l.toArray Q (l.drop n) a' x.w) (l.take n) a) : (Code.region id l.toArray true).wp P Q a w := by
  simp only [Region.lexTailB, Bool.and_eq_true, decide_eq_true_eq] at hB
  obtain ⟨⟨⟨⟨hsel, hn⟩, hs⟩, hc⟩, hlex⟩ := hB
  have hnl : n < l.length := by simpa using hn
  have htl : (l.take n).length = n := by rw [List.length_take]; omega
  have hsz : l.toArray.size = l.length := by simp
  have inv0 : HeadInv .any l.toArray n (Array.replicate l.toArray.size false) :=
    ⟨by simp, fun j oj _ hl => absurd hl (by rw [getD_replicate_false]; simp), fun t _ ht => getD_in (by simpa using ht) (getD_replicate_false _ _)⟩
  have H := headQ_lex (D := fun w' => ∃ x : Calm C, w' = x.w) (g := l.toArray.size - n) hsel hs hc hn (l.take n) 0 _ a (fun j hj => by
    rw [htl] at hj
    rw [List.getElem?_take_of_lt hj, Nat.zero_add]; simp) (by omega) inv0 (by rw [htl]; exact hlex) (h ⟨⟨_, hC⟩⟩)
  refine wp_region_any hm ?_
  have H2 := headQ_any (Q := Q) (g := l.toArray.size - n) (fun listed a' hL w' hw' => by
    obtain ⟨x, rfl⟩ := hw'
    have h3 := wpAny_of_seq (md := .any) (Q' := Q) (l.drop n) n listed a' x.w (fun j => by simp [List.getElem?_drop]) (by rw [List.length_drop, ← hsz]; exact hL.1) (hL.2 x)
    rw [List.length_drop, ← hsz] at h3
    exact h3) _ _ _ w.drew ⟨⟨_, hC⟩, rfl⟩ H
  rw [htl, show n + (l.toArray.size - n) = l.toArray.size by omega] at H2
  exact H2
end
/-- Worlds in which all of w is as it was. -/
def After (w : World) : World → Prop := fun u => Below w.heap.size w u
theorem after_drew {w : World} : After w w.drew := (Below.refl _ _).drew
theorem After.trans {w u u' : World} (h : After w u) (h' : After u u') : After w u' := Below.trans h (h'.mono h.size)
theorem lt_of_cell {w : World} {p : Addr} {v : Value} (h : w.cell? p = some v) : p.block < w.heap.size := by
  rcases Nat.lt_or_ge p.block w.heap.size with h1 | h1
  · exact h1
  · unfold World.cell? at h
    rw [Array.getElem?_eq_none h1] at h
    simp at h
theorem Calm.cell {w : World} {p : Addr} {v : Value} (h : w.cell? p = some v) : ∀ x : Calm (After w), x.w.cell? p = some v := fun x => (Below.cell x.ok (lt_of_cell h)).trans h
theorem Calm.after {P : Program} {w : World} {f : FuncId} {args : Array Value} {v : Value} {x : Calm (After w)} (h : Calls P f args x.w fun e w' => e = .returned v ∧ Below x.w.heap.size x.w w') : Calls P f args x.w fun e w' => e = .returned v ∧ ∃ y : Calm (After w), w' = y.w :=
  Calm.call (h.mono fun _ _ ⟨he, hb⟩ => ⟨he, After.trans x.ok hb⟩)
/-- .. by a callee that leaves the world alone. -/
theorem Calm.same {P : Program} {w : World} {f : FuncId} {args : Array Value} {v : Value} {x : Calm (After w)} (h : Calls P f args x.w fun e w' => e = .returned v ∧ x.w = w') : Calls P f args x.w fun e w' => e = .returned v ∧ ∃ y : Calm (After w), w' = y.w :=
  h.mono fun _ _ ⟨he, hb⟩ => ⟨he, x, hb.symm⟩
end Go.Proofs.YtbcboldepghgpaaGreatDoor
