/-
  Items, of the program and of the reference, as one; what bytes' writes keep.
-/
import Derived.Test.YthkggeohdclffaaDoorDerQ
import Derived.Test.YthkggeohdclffaaDoorDerV
set_option linter.unusedVariables false
set_option linter.unusedSimpArgs false
set_option maxRecDepth 100000
namespace Go.Proofs.YthkggeohdclffaaDoor
open Go.RowKit
theorem Der.next_body_le (b : List UInt8) (at_ : Int) : (Der.next b at_).body.length ≤ b.length := by
  unfold Der.next
  split
  · simp [Der.none_]
  · split
    · simp [Der.none_]
    · split
      · simp [Der.none_]
      · split
        · simp [Der.none_]
        · simp only [List.length_take, List.length_drop]; omega
theorem Der.Runs.bodies {b : List UInt8} {k : Nat} {xs : List Der.Item} (h : Der.Runs b k xs) : ∀ x ∈ xs, x.body.length ≤ b.length := by
  induction h with
  | done k _ => simp
  | more k r hlt he _ ih =>
    intro x hx
    rcases List.mem_cons.1 hx with rfl | h1
    · exact Der.next_body_le b k
    · exact ih x h1
/-- What both readers of items answer. -/
def ItemsSaid (w : World) (xs : List Der.Item) (p er : Int) (e : Ending) (w' : World) : Prop :=
  ∃ v ys, e = .returned (.tuple #[v, .int .i64 p, .int .i64 er]) ∧ ys.map (·.1) = xs ∧ Der.OwnI w' w.heap.size v ys ∧ Below w.heap.size w w'
theorem items_fix (b : List UInt8) : ∃ (xs : List Der.Item) (p er : Int), (xs.length ≤ b.length ∧ ∀ x ∈ xs, x.body.length ≤ b.length) ∧
    (∀ (A : Option Addr) (m c : Nat) (w : World), m ≤ c → m ≤ 1000000000 → ReadsB w w.heap.size A m b → w.cell? ⟨0, 0, none⟩ = some (.iface 108 (.agg #[.pointer (some ⟨9, 53, none⟩)])) → Calls Tryd.prog 12 #[.slice A m c] w (ItemsSaid w xs p er)) ∧
    (∀ (A : Option Addr) (m c : Nat) (w : World), m ≤ c → m ≤ 1000000000 → ReadsB w w.heap.size A m b → Calls Tryd.prog 13 #[.slice A m c] w (ItemsSaid w xs p er)) := by
  rcases Der.reads b b.length 0 (by omega) with ⟨xs, h⟩ | ⟨xs, j, h⟩
  · refine ⟨xs, 0, 0, ⟨by have := h.len; omega, h.bodies⟩, fun A m c w hc hm hr _ => (items_runs A m c b hc hm xs h w hr).mono ?_, fun A m c w hc hm hr => (ritems_runs A m c b hc hm xs h w hr).mono ?_⟩
    · rintro e w' ⟨v, ys, h1, h2, h3, h4⟩
      exact ⟨v, ys, h1, h2, h3, h4⟩
    · rintro e w' ⟨⟨v, ys, h1, h2, h3⟩, h4⟩
      exact ⟨v, ys, h1, h2, h3, h4⟩
  · refine ⟨[], (j : Int), (Der.next b j).err, ⟨by simp, by simp⟩, fun A m c w hc hm hr hg => (items_stops A m c b hc hm xs j h w hr hg).mono ?_, fun A m c w hc hm hr => (ritems_stops A m c b hc hm xs j h w hr).mono ?_⟩
    · rintro e w' ⟨h1, h4⟩
      exact ⟨_, [], h1, rfl, Der.OwnI.nil _ _, h4⟩
    · rintro e w' ⟨h1, h4⟩
      exact ⟨_, [], h1, rfl, Der.OwnI.nil _ _, h4⟩
/-- An own slice of n bytes, whatever they are. -/
structure Shape (w : World) (B : Nat) (v : Value) (n : Nat) : Prop where
  is : ∃ l, OwnB w B v l ∧ l.length = n
theorem Shape.of {w : World} {B : Nat} {v : Value} {l : List UInt8} (h : OwnB w B v l) : Shape w B v l.length := ⟨l, h, rfl⟩
theorem Shape.set {w : World} {B n : Nat} {v : Value} (h : Shape w B v n) (p : Addr) (hp : p.spot = none) (x : UInt8) : Shape (w.setCell p (.int .u8 ((n8 x : Nat) : Int))) B v n := by
  obtain ⟨l, h1, h2⟩ := h.is
  by_cases he : v.ownBlock = some p.block
  · rcases Nat.eq_zero_or_pos l.length with h0 | h0
    · have e := h1.own.2
      rcases e with ⟨rfl, _⟩ | ⟨g, cap, cur, rfl, r⟩
      · cases he
      · obtain ⟨pb, po, pt⟩ := p
        have e2 : g = pb := by injection he
        subst e2
        dsimp only at hp
        subst hp
        have := h1.own.stored po (.int .u8 ((n8 x : Nat) : Int))
        refine ⟨l, ⟨?_⟩, h2⟩
        have e3 : (l.map U8).set po (.int .u8 ((n8 x : Nat) : Int)) = l.map U8 := by
          obtain rfl := List.length_eq_zero_iff.1 h0
          rfl
        have h4 := this.1
        rw [e3] at h4
        exact h4
    · obtain ⟨g, cap, rfl, _⟩ := h1.form h0
      obtain ⟨pb, po, pt⟩ := p
      have e2 : g = pb := by injection he
      subst e2
      dsimp only at hp
      subst hp
      exact ⟨_, h1.set_ po x, by rw [List.length_set]; exact h2⟩
  · exact ⟨l, h1.far he _, h2⟩
/-- What stays while bytes of items' bodies are written. -/
structure Mut (W1 : World) (B g : Nat) (x : Der.Item) (A3 : Option Addr) (c3 : Nat) (v : Value) (ys : List Der.X) (W : World) : Prop where
  bx : Blk W g 25 (itemCells x.tag (.slice A3 x.body.length c3) x.at_ x.len)
  sx : Shape W B (.slice A3 x.body.length c3) x.body.length
  row : W.ownsRow B 25 4 v ys.length (Der.flatI ys)
  sh : ∀ y ∈ ys, Shape W B y.2 y.1.body.length
  below : Below B W1 W
theorem Mut.set {W1 : World} {B g : Nat} {x : Der.Item} {A3 : Option Addr} {c3 : Nat} {v : Value} {ys : List Der.X} {W : World} (h : Mut W1 B g x A3 c3 v ys W) {u : Value} {n : Nat} (hu : Shape W B u n) (p : Addr) (hp : p.spot = none) (he : u.ownBlock = some p.block) (z : UInt8) :
    Mut W1 B g x A3 c3 v ys (W.setCell p (.int .u8 ((n8 z : Nat) : Int))) := by
  obtain ⟨l, hl, _⟩ := hu.is
  refine ⟨h.bx.far ?_ _, h.sx.set p hp z, ownsRow_setCell_other h.row ?_ _, fun y hy => (h.sh y hy).set p hp z, h.below.setCell ?_ _⟩
  · intro e
    exact own_blk_ne hl.own h.bx (by decide) (by rw [he, e])
  · rw [← he]
    exact fun e => own_own_ne hl.own h.row (by decide) _ he (by rw [e, he])
  · exact (hl.own.lt _ he).1
end Go.Proofs.YthkggeohdclffaaDoor
