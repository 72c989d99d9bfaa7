/-
  A slice of texts.
-/
import Derived.Test.YthkggeohdclffaaDoorMore
set_option linter.unusedVariables false
set_option linter.unusedSimpArgs false
set_option maxRecDepth 100000
namespace Go.Proofs.YthkggeohdclffaaDoor
open Go.RowKit
/-- A text among parts: the slice that is it, and its bytes. -/
structure Part where
  D : Option Addr
  n : Nat
  d : Nat
  t : List UInt8
def part (ps : List Part) (i : Nat) : Part := ps.getD i ⟨none, 0, 0, []⟩
/-- All parts' bytes, one behind the other. -/
def joined : List Part → List UInt8
  | [] => []
  | p :: r => p.t ++ joined r
theorem joined_more : ∀ (ps : List Part) (k : Nat), k < ps.length → joined (ps.take (k + 1)) = joined (ps.take k) ++ (part ps k).t
  | [], k, h => by simp at h
  | p :: r, 0, _ => by simp [joined, part]
  | p :: r, k + 1, h => by
    have ih := joined_more r k (by simpa using h)
    rw [List.take_succ_cons, List.take_succ_cons, joined, joined, ih, List.append_assoc]; rfl
/-- A slice of texts. -/
structure Parts (w : World) (B : Nat) (A : Option Addr) (n : Nat) (ps : List Part) : Prop where
  len : ps.length = n
  is : ∀ i, i < n → ∃ ad, A = some ad ∧ ad.block < B ∧ w.cell? (ad.add i) = some (.slice (part ps i).D (part ps i).n (part ps i).d) ∧ ReadsB w B (part ps i).D (part ps i).n (part ps i).t ∧ (part ps i).n ≤ 140737488355000
theorem Parts.below {w w' : World} {B : Nat} {A : Option Addr} {n : Nat} {ps : List Part} (h : Parts w B A n ps) (hb : Below B w w') : Parts w' B A n ps :=
  ⟨h.len, fun i hi => by
    obtain ⟨ad, e, hlt, hc, hr, hn⟩ := h.is i hi
    exact ⟨ad, e, hlt, by rw [← hc]; exact hb.cell (by rw [block_of_add]; exact hlt), ⟨hr.len, hr.is.below hb⟩, hn⟩⟩
theorem Parts.none (w : World) (B : Nat) : Parts w B none 0 [] := ⟨rfl, fun i hi => by omega⟩
theorem alloc_size (w : World) (o : Obj) : (w.alloc o).heap.size = w.heap.size + 1 := by show (w.heap.push o).size = _; rw [Array.size_push]
theorem parts_one {w : World} {A : Option Addr} {n c : Nat} {t : List UInt8} (hr : ReadsB w w.heap.size A n t) (hn : n ≤ 140737488355000) :
    Parts (w.alloc (.cells #[.slice A n c] 22)) (w.alloc (.cells #[.slice A n c] 22)).heap.size (some ⟨w.heap.size, 0, none⟩) 1 [⟨A, n, c, t⟩] := by
  refine ⟨rfl, fun i hi => ?_⟩
  have e : i = 0 := by omega
  subst e
  have hB := (Below.refl w.heap.size w).alloc (Nat.le_refl _) (.cells #[.slice A n c] 22)
  refine ⟨_, rfl, by rw [alloc_size]; exact Nat.lt_succ_self _, (Blk.nu (w := w) (t := 22) (cs := #[.slice A n c]) rfl).cell 0, ⟨hr.len, (hr.is.below hB).more hB.size⟩, hn⟩
theorem Parts.wide {w : World} {B B' : Nat} {A : Option Addr} {n : Nat} {ps : List Part} (h : Parts w B A n ps) (hB : B ≤ B') : Parts w B' A n ps :=
  ⟨h.len, fun i hi => by
    obtain ⟨ad, e, hlt, hc, hr, hn⟩ := h.is i hi
    exact ⟨ad, e, Nat.lt_of_lt_of_le hlt hB, hc, ⟨hr.len, hr.is.more hB⟩, hn⟩⟩
theorem joined_one (p : Part) : joined [p] = p.t := by simp [joined]
theorem reads_away {w w' : World} {B n : Nat} {A : Option Addr} {l : List UInt8} {row : Option Nat} (h : ReadsB w B A n l) (hg : w.grownBy w' row) (hB : B ≤ w.heap.size) (hne : 0 < n → ∀ ad, A = some ad → row ≠ some ad.block) : ReadsB w' B A n l :=
  ⟨h.len, h.is.1, fun hn => by
    obtain ⟨ad, e, hb, hc⟩ := h.is.2 hn
    exact ⟨ad, e, hb, fun j u hu => by rw [← hc j u hu]; exact World.cell?_of_block (hg.block _ (by rw [block_of_add]; omega) (by rw [block_of_add]; exact fun e' => hne hn ad e e'.symm))⟩⟩
theorem own_away {w w' : World} {B k : Nat} {v : Value} {l ctx : List UInt8} {D : Option Addr} (ho : OwnB w B v l) (hr : ReadsB w' B D k ctx) : 0 < k → ∀ ad, D = some ad → Value.ownBlock v ≠ some ad.block := fun h0 ad e => by
  obtain ⟨a2, e2, hb2, _⟩ := hr.is.2 h0
  rw [e2] at e; injection e with e; subst e
  rcases ho.size with e | ⟨g, e, hg, _⟩
  · rw [e]; intro e; cases e
  · rw [e]; intro e; injection e; omega
theorem joined_le (ps : List Part) (k : Nat) : (joined (ps.take k)).length ≤ (joined ps).length := by
  induction ps generalizing k with
  | nil => simp
  | cons p r ih =>
    cases k with
    | zero => simp [joined]
    | succ k => have := ih k; simp only [List.take_succ_cons, joined, List.length_append]; omega
theorem OwnB.room {w : World} {B n c : Nat} {A : Option Addr} {l : List UInt8} (h : OwnB w B (.slice A n c) l) : n ≤ c := by
  rcases h.own.2 with ⟨e, h0⟩ | ⟨g', cap, cur, e, _, _, hnc, _⟩
  · injection e with _ e2 e3; omega
  · injection e with _ e2 e3; omega
theorem OwnB.cut {w : World} {B n c k : Nat} {A : Option Addr} {l : List UInt8} (h : OwnB w B (.slice A n c) l) (hk : k ≤ n) : OwnB w B (.slice A k c) (l.take k) := by
  obtain ⟨hx, h2⟩ := h.own
  rcases h2 with ⟨e, h0⟩ | ⟨g', cap, cur, e, h3, h4, h5, h6, h7, h8⟩
  · injection e with e1 e2 e3
    subst e1 e2 e3
    obtain rfl : k = 0 := by omega
    exact ⟨by simp, .inl ⟨rfl, rfl⟩⟩
  · injection e with e1 e2 e3
    subst e1 e3
    have hl : (l.take k).length = k := by rw [List.length_take]; omega
    refine ⟨?_⟩
    rw [hl]
    refine ⟨by simp; omega, .inr ⟨g', c, cur, rfl, h3, h4, by omega, h6, h7, ?_⟩⟩
    rw [Nat.mul_one] at h8 ⊢
    rw [List.map_take, ← h8, List.take_take, Nat.min_eq_left (by omega)]
theorem OwnB.low {w : World} {B B' : Nat} {v : Value} {l : List UInt8} (h : OwnB w B v l) (hB : B' ≤ B) : OwnB w B' v l :=
  ⟨h.own.1, h.own.2.imp id fun ⟨g, cap, cur, e, hb, r⟩ => ⟨g, cap, cur, e, Nat.le_trans hB hb, r⟩⟩
end Go.Proofs.YthkggeohdclffaaDoor
