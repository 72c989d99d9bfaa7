/-
  Words of 32 and of 64 bits in memory.
-/
import Derived.Test.YtbcboldepghgpaaGreatDoorShaSpec
import Derived.Test.YtbcboldepghgpaaGreatDoorMore
import Derived.Test.YtbcboldepghgpaaGreatDoorStr
import Derived.ArgAppend
set_option linter.unusedVariables false
set_option linter.unusedSimpArgs false
set_option maxRecDepth 100000
namespace Go.Proofs.YtbcboldepghgpaaGreatDoor
open Go.RowKit
def W32 (x : UInt32) : Value := .int .u32 ((n32 x : Nat) : Int)
def arr32 (l : List UInt32) : Array Value := (l.map W32).toArray
theorem arr32_get (l : List UInt32) (i : Nat) (hi : i < l.length) : (arr32 l)[i]? = some (W32 (Sha32.at_ l i)) := by
  simp [arr32, Sha32.at_, hi]
theorem arr32_set (l : List UInt32) (i : Nat) (x : UInt32) : (arr32 l).setIfInBounds i (W32 x) = arr32 (l.set i x) := by
  apply Array.ext'
  simp [arr32, List.map_set]
theorem arr32_size (l : List UInt32) : (arr32 l).size = l.length := by simp [arr32]
theorem u32_info : (Tryz.prog.info? 66).map (fun i => (i.zero, i.size, i.bytes)) = some (some (.int .u32 0), 1, 4) := by kernel_rfl
/-- A slice value, made by the call itself, holds the words l. -/
structure OwnW32 (w : World) (B : Nat) (v : Value) (l : List UInt32) : Prop where
  own : w.ownsRow B 66 1 v l.length (l.map W32)
/-- A slice value that came in holds the words l. -/
structure ReadsW32 (w : World) (B : Nat) (A : Option Addr) (n : Nat) (l : List UInt32) : Prop where
  len : l.length = n
  is : Reads w B 1 A n (l.map W32)
section
variable {w w' : World} {B z : Nat} {v : Value} {l : List UInt32}
theorem OwnW32.drew (h : OwnW32 w B v l) : OwnW32 w.drew B v l := ⟨h.own.drew⟩
theorem OwnW32.alloc (h : OwnW32 w B v l) (o : Obj) : OwnW32 (w.alloc o) B v l := ⟨h.own.alloc o⟩
theorem OwnW32.moved (h : OwnW32 w B v l) (hg : w.grownBy w' (some z)) (hv : v.ownBlock ≠ some z) : OwnW32 w' B v l := ⟨h.own.kept hg (.inr hv)⟩
theorem OwnW32.later (h : OwnW32 w B v l) (hb : Below w.heap.size w w') : OwnW32 w' B v l := by
  have hg : w.grownBy w' (some w.heap.size) := ⟨hb.os, hb.tape, hb.output, hb.size, fun i hi _ => hb.block i hi⟩
  refine h.moved hg ?_
  intro e
  have := (h.own.lt _ e).2
  omega
theorem OwnW32.lower {B' : Nat} (h : OwnW32 w B v l) (hB : B' ≤ B) : OwnW32 w B' v l :=
  ⟨h.own.1, h.own.2.imp id fun ⟨g, cap, cur, h1, h2, h3⟩ => ⟨g, cap, cur, h1, Nat.le_trans hB h2, h3⟩⟩
theorem OwnW32.far {p : Addr} (h : OwnW32 w B v l) (hp : v.ownBlock ≠ some p.block) (u : Value) : OwnW32 (w.setCell p u) B v l := ⟨ownsRow_setCell_other h.own hp u⟩
theorem OwnW32.form (h : OwnW32 w B v l) (hn : 0 < l.length) : ∃ g cap, v = .slice (some ⟨g, 0, none⟩) l.length cap ∧ B ≤ g ∧ g < w.heap.size ∧ l.length ≤ cap := by
  obtain ⟨_, h2⟩ := h.own
  rcases h2 with ⟨rfl, h0⟩ | ⟨g, cap, cur, rfl, hg, hh, hnc, _⟩
  · have : (l.map W32).length = 0 := by simpa using h0
    simp at this; omega
  · refine ⟨g, cap, rfl, hg, ?_, hnc⟩
    rcases Nat.lt_or_ge g w.heap.size with hlt | hge
    · exact hlt
    · rw [Array.getElem?_eq_none hge] at hh; cases hh
theorem OwnW32.cell {g cap : Nat} (h : OwnW32 w B (.slice (some ⟨g, 0, none⟩) l.length cap) l) (i : Nat) (hi : i < l.length) : w.cell? ⟨g, i, none⟩ = some (W32 (Sha32.at_ l i)) := by
  rw [h.own.cellAt i (by omega), List.getElem?_map, List.getElem?_eq_getElem hi]
  simp [Sha32.at_, hi]
theorem ReadsW32.cell {A : Option Addr} {n k : Nat} (h : ReadsW32 w B A n l) (hk : k < n) : ∃ ad, A = some ad ∧ ad.block < B ∧ w.cell? (ad.add k) = some (W32 (Sha32.at_ l k)) := by
  obtain ⟨ad, u, hA, hb, hu, hc⟩ := h.is.at_ hk
  refine ⟨ad, hA, hb, hc.trans ?_⟩
  have hl : k < l.length := by rw [h.len]; exact hk
  rw [List.getElem?_map, List.getElem?_eq_getElem hl] at hu
  simp at hu
  rw [← hu]; simp [Sha32.at_, hl]
theorem OwnW32.reads_any {A : Option Addr} {n c : Nat} (h : OwnW32 w B (.slice A n c) l) : n = l.length ∧ ReadsW32 w w.heap.size A n l := by
  have hn : n = l.length := by
    rcases h.own.2 with ⟨e, h0⟩ | ⟨g, cap, cur, e, _⟩
    · injection e with _ e2 _; have : l.length = 0 := by simpa using h0
      omega
    · injection e
  subst hn
  exact ⟨rfl, rfl, Reads.of_own h.own⟩
theorem OwnW32.slice (h : OwnW32 w B v l) : ∃ A c, v = .slice A l.length c := by
  rcases h.own.2 with ⟨e, h0⟩ | ⟨g, cap, cur, e, _⟩
  · have : l.length = 0 := by simpa using h0
    exact ⟨none, 0, by rw [e, this]⟩
  · exact ⟨_, _, e⟩
theorem Blk.appendedW32 {g : Nat} {t : TypeId} {cs : Array Value} (h : Blk w g t cs) (ho : OwnW32 w B v l) (hg : w.grownBy w' v.ownBlock) (hne : 66 ≠ t) : Blk w' g t cs :=
  h.grown hg fun e => own_blk_ne ho.own h hne e.symm
theorem ReadsW32.one (w : World) (x : UInt32) : ReadsW32 (w.alloc (.cells #[W32 x] 66)) (w.heap.size + 1) (some ⟨w.heap.size, 0, none⟩) 1 [x] := by
  refine ⟨rfl, rfl, fun _ => ⟨_, rfl, by simp, fun j u hu => ?_⟩⟩
  match j, hu with
  | 0, hu =>
    have hb : Blk (w.alloc (.cells #[W32 x] 66)) w.heap.size 66 #[W32 x] := Blk.nu rfl
    have hc := hb.cell 0
    simp at hu
    rw [← hu]
    exact hc
  | j + 1, hu => simp at hu
theorem run_appendW32 {o : Oper} {ρ : Operand → Value} {s x : Operand} (ho : o.op = .call { callee := .builtin .append, args := #[s, x], argTypes := #[87, 87] })
    (hs : ρ s = v) (hown : OwnW32 w B v l) (B' : Nat) (A : Option Addr) (m c : Nat) (ys : List UInt32) (hx : ρ x = .slice A m c) (hr : ReadsW32 w B' A m ys) (hlen : l.length + ys.length ≤ 1099511627776) (hB : B ≤ w.heap.size) :
    ∃ v' w', (execOp ρ o).run Tryz.prog w = .ok (.value v') w' ∧ OwnW32 w' B v' (l ++ ys) ∧ w.grownBy w' v.ownBlock := by
  obtain ⟨i0, hi0, hz0, hz1, hz2⟩ := info_parts u32_info
  have hm := hr.len
  obtain ⟨v', w', hrun, h1, h2, _⟩ := run_append_any (P := Tryz.prog) (w := w) B 87 o.type 66 i0 _ 1 4 Tryz.underlying87 hi0 hz0 hz1 hz2 rfl (by omega) v l.length (l.map W32) hown.own B' A m c (ys.map W32) hr.is (by intro u hu; obtain ⟨x, _, rfl⟩ := List.mem_map.1 hu; rfl) (by unfold maxLen; omega) (by omega) hB
  refine ⟨v', w', ?_, ⟨?_⟩, h2⟩
  · unfold execOp
    simp only [ho, resolve, invoke, builtin, Sem.run_bind, Sem.run_pure, Result.andThen_ok, List.map_toArray, List.map_cons, List.map_nil, hs, hx, hrun]
  · rw [List.length_append, hm, List.map_append]; exact h1
set_option maxRecDepth 100000 in
/-- .. and what was read before behind the slice's own address is read there still. -/
theorem run_appendKeep32 {o : Oper} {ρ : Operand → Value} {s x : Operand} (ho : o.op = .call { callee := .builtin .append, args := #[s, x], argTypes := #[87, 87] })
    (g cap : Nat) (hs : ρ s = .slice (some ⟨g, 0, none⟩) l.length cap) (hown : OwnW32 w B (.slice (some ⟨g, 0, none⟩) l.length cap) l) (hl : 0 < l.length) (B' : Nat) (ad : Addr) (c : Nat) (y : UInt32) (hx : ρ x = .slice (some ad) 1 c) (hr : ReadsW32 w B' (some ad) 1 [y]) (hlen : l.length + 1 ≤ 1099511627776) (hB : B ≤ w.heap.size) :
    ∃ v' w', (execOp ρ o).run Tryz.prog w = .ok (.value v') w' ∧ OwnW32 w' B v' (l ++ [y]) ∧ w.grownBy w' (some g) ∧ ∀ i, i < l.length → w'.cell? ⟨g, i, none⟩ = some (W32 (Sha32.at_ l i)) := by
  obtain ⟨v', w', hrun, h1, h2⟩ := run_appendW32 ho hs hown B' (some ad) 1 c [y] hx hr hlen hB
  refine ⟨v', w', hrun, h1, h2, fun i hi => ?_⟩
  obtain ⟨i0, hi0, hz0, hz1, hz2⟩ := info_parts u32_info
  obtain ⟨ad', hA, _, hc⟩ := hr.is.2 (by omega)
  injection hA with hA
  subst hA
  have hc1 : ∀ j u, ([y].map W32)[j]? = some u → w.cell? (ad.add j) = some u := hc
  have hone : ∀ u ∈ [y].map W32, u.oneCell' = true := by intro u hu; obtain ⟨x, _, rfl⟩ := List.mem_map.1 hu; rfl
  have hold : ∀ j u, (l.map W32)[j]? = some u → w.cell? ((⟨g, 0, none⟩ : Addr).add j) = some u := fun j u hu => by
    have hj : j < l.length := by
      rcases Nat.lt_or_ge j l.length with h | h
      · exact h
      · rw [List.getElem?_eq_none (by simpa using h)] at hu; cases hu
    have hadd : (⟨g, 0, none⟩ : Addr).add j = ⟨g, j, none⟩ := by unfold Addr.add; split <;> simp_all
    rw [hadd, hown.cell j hj, ← hu, List.getElem?_map, List.getElem?_eq_getElem hj]
    simp [Sha32.at_, hj]
  have hrun2 : (Builtin.append_ #[87, 87] o.type #[.slice (some ⟨g, 0, none⟩) l.length cap, .slice (some ad) 1 c]).run Tryz.prog w = .ok v' w' := by
    unfold execOp at hrun
    simp only [ho, resolve, invoke, builtin, Sem.run_bind, Sem.run_pure, Result.andThen_ok, List.map_toArray, List.map_cons, List.map_nil, hs, hx] at hrun
    cases hq : (Builtin.append_ #[87, 87] o.type #[.slice (some ⟨g, 0, none⟩) l.length cap, .slice (some ad) 1 c]).run Tryz.prog w with
    | halt x w2 => rw [hq] at hrun; simp at hrun
    | ok v2 w2 => rw [hq] at hrun; simp at hrun; rw [hrun.1, hrun.2]
  by_cases hroom : l.length + 1 ≤ cap
  · obtain ⟨g', cap', cur, e', _, hh, _, _, hsz, _⟩ : ∃ g' cap' cur, Value.slice (some ⟨g, 0, none⟩) l.length cap = .slice (some ⟨g', 0, none⟩) l.length cap' ∧ B ≤ g' ∧ w.heap[g']? = some (.cells cur 66 (0, 0)) ∧ l.length ≤ cap' ∧ cap' ≤ maxLen ∧ cur.size = cap' * 1 ∧ True := by
      rcases hown.own.2 with ⟨e, _⟩ | ⟨g', cap', cur, e, h1, h2, h3, h4, h5, _⟩
      · cases e
      · exact ⟨g', cap', cur, e, h1, h2, h3, h4, h5, trivial⟩
    injection e' with e1 _ e3
    injection e1 with e1
    injection e1 with e1
    subst e1
    subst e3
    have hblk : Blk w g 66 cur := ⟨hh⟩
    have hrun3 := run_append_room_cells (P := Tryz.prog) (w := w) 87 o.type 66 i0 Tryz.underlying87 hi0 g 0 l.length cap ad 1 c ([y].map W32) (by rw [hz1]; rfl) hc1 hone hroom
      (fun j hj => by
        have : j = 0 := by simpa using hj
        subst this
        rw [hz1, hblk.cell, Array.getElem?_eq_getElem (by omega)]; rfl)
      (fun j _ => hown.own.frozenAt _)
    rw [hrun2] at hrun3
    injection hrun3 with hv hw
    subst hv
    obtain ⟨hn, _⟩ := h1.reads_any
    have h1' : OwnW32 w' B (.slice (some ⟨g, 0, none⟩) (l ++ [y]).length cap) (l ++ [y]) := by rw [← hn]; exact h1
    rw [h1'.cell i (by rw [List.length_append]; omega)]
    simp only [Sha32.at_]
    rw [List.getD_eq_getElem?_getD, List.getD_eq_getElem?_getD, List.getElem?_append_left hi]
  · obtain ⟨v2, w2, hrun3, _, hg3⟩ := run_append_arg_grows (P := Tryz.prog) (w := w) 87 o.type 66 i0 _ 1 4 Tryz.underlying87 hi0 hz0 hz1 hz2 rfl (by omega) ⟨g, 0, none⟩ l.length cap (l.map W32) (by simp) hold ad 1 c ([y].map W32) rfl hc1 (by omega) (by unfold maxLen; omega) (by omega)
    rw [hrun2] at hrun3
    injection hrun3 with _ hw
    subst hw
    rw [World.cell?_of_block (hg3.block g (hown.own.lt g rfl).2 (by simp))]
    exact hown.cell i hi
end
theorem run_appendKeepV32 {w : World} {B : Nat} {l : List UInt32} {γ : Type} {C : Value → World → γ → Prop} {o : Oper} {ρ : Operand → Value} {s x : Operand} (ho : o.op = .call { callee := .builtin .append, args := #[s, x], argTypes := #[87, 87] })
    (g cap : Nat) (hs : ρ s = .slice (some ⟨g, 0, none⟩) l.length cap) (hown : OwnW32 w B (.slice (some ⟨g, 0, none⟩) l.length cap) l) (hl : 0 < l.length) (B' : Nat) (ad : Addr) (c : Nat) (y : UInt32) (hx : ρ x = .slice (some ad) 1 c) (hr : ReadsW32 w B' (some ad) 1 [y]) (hlen : l.length + 1 ≤ 1099511627776) (hB : B ≤ w.heap.size)
    (h : ∀ v' w', OwnW32 w' B v' (l ++ [y]) → w.grownBy w' (some g) → (∀ i, i < l.length → w'.cell? ⟨g, i, none⟩ = some (W32 (Sha32.at_ l i))) → ∃ q, C v' w' q) : ∃ v' w' q, (execOp ρ o).run Tryz.prog w = .ok (.value v') w' ∧ C v' w' q := by
  obtain ⟨v', w', h0, h1, h2, h3⟩ := run_appendKeep32 ho g cap hs hown hl B' ad c y hx hr hlen hB
  obtain ⟨q, hq⟩ := h v' w' h1 h2 h3
  exact ⟨v', w', q, h0, hq⟩
section
variable {w : World} {ops : Array Oper} {rest : List Oper} {o : Oper} {a : Act} {Q : Exit → Act → World → Prop}
theorem wpl_appendW32 (hgd : o.guard = none) (s x : Operand) (ho : o.op = .call { callee := .builtin .append, args := #[s, x], argTypes := #[87, 87] })
    (B : Nat) (v : Value) (l : List UInt32) (hs : a.eval s = v) (hown : OwnW32 w B v l) (B' : Nat) (A : Option Addr) (m c : Nat) (ys : List UInt32) (hx : a.eval x = .slice A m c) (hr : ReadsW32 w B' A m ys)
    (hlen : l.length + ys.length ≤ 1099511627776) (hB : B ≤ w.heap.size)
    (h : ∀ v' w', OwnW32 w' B v' (l ++ ys) → w.grownBy w' v.ownBlock → wpList Tryz.prog ops Q rest (a.put o.dst v') w') : wpList Tryz.prog ops Q (o :: rest) a w := by
  obtain ⟨v', w', hrun, h1, h2⟩ := run_appendW32 (ρ := a.eval) ho hs hown B' A m c ys hx hr hlen hB
  exact wpList_plain hgd fun K hK => by
    unfold Oper.wp
    rw [hrun]
    exact hK _ _ (h v' w' h1 h2)
end
theorem run_buildW32 {w : World} {o : Oper} {ρ : Operand → Value} {x : Operand} (ho : o.op = .buildSlice 87 1 #[(0, x)]) (y : UInt32) (hx : ρ x = .int .u32 ((n32 y : Nat) : Int)) :
    (execOp ρ o).run Tryz.prog w = .ok (.value (.slice (some ⟨w.heap.size, 0, none⟩) 1 1)) (w.alloc (.cells #[W32 y] 66)) := by
  unfold execOp
  simp only [ho]
  simp [go_sem, hx]
  rfl

def W64 (x : UInt64) : Value := .int .u64 ((n64 x : Nat) : Int)
def arr64 (l : List UInt64) : Array Value := (l.map W64).toArray
theorem arr64_get (l : List UInt64) (i : Nat) (hi : i < l.length) : (arr64 l)[i]? = some (W64 (Sha64.at_ l i)) := by
  simp [arr64, Sha64.at_, hi]
theorem arr64_set (l : List UInt64) (i : Nat) (x : UInt64) : (arr64 l).setIfInBounds i (W64 x) = arr64 (l.set i x) := by
  apply Array.ext'
  simp [arr64, List.map_set]
theorem arr64_size (l : List UInt64) : (arr64 l).size = l.length := by simp [arr64]
theorem u64_info : (Tryz.prog.info? 54).map (fun i => (i.zero, i.size, i.bytes)) = some (some (.int .u64 0), 1, 8) := by kernel_rfl
/-- A slice value, made by the call itself, holds the words l. -/
structure OwnW64 (w : World) (B : Nat) (v : Value) (l : List UInt64) : Prop where
  own : w.ownsRow B 54 1 v l.length (l.map W64)
/-- A slice value that came in holds the words l. -/
structure ReadsW64 (w : World) (B : Nat) (A : Option Addr) (n : Nat) (l : List UInt64) : Prop where
  len : l.length = n
  is : Reads w B 1 A n (l.map W64)
section
variable {w w' : World} {B z : Nat} {v : Value} {l : List UInt64}
theorem OwnW64.drew (h : OwnW64 w B v l) : OwnW64 w.drew B v l := ⟨h.own.drew⟩
theorem OwnW64.alloc (h : OwnW64 w B v l) (o : Obj) : OwnW64 (w.alloc o) B v l := ⟨h.own.alloc o⟩
theorem OwnW64.moved (h : OwnW64 w B v l) (hg : w.grownBy w' (some z)) (hv : v.ownBlock ≠ some z) : OwnW64 w' B v l := ⟨h.own.kept hg (.inr hv)⟩
theorem OwnW64.later (h : OwnW64 w B v l) (hb : Below w.heap.size w w') : OwnW64 w' B v l := by
  have hg : w.grownBy w' (some w.heap.size) := ⟨hb.os, hb.tape, hb.output, hb.size, fun i hi _ => hb.block i hi⟩
  refine h.moved hg ?_
  intro e
  have := (h.own.lt _ e).2
  omega
theorem OwnW64.lower {B' : Nat} (h : OwnW64 w B v l) (hB : B' ≤ B) : OwnW64 w B' v l :=
  ⟨h.own.1, h.own.2.imp id fun ⟨g, cap, cur, h1, h2, h3⟩ => ⟨g, cap, cur, h1, Nat.le_trans hB h2, h3⟩⟩
theorem OwnW64.far {p : Addr} (h : OwnW64 w B v l) (hp : v.ownBlock ≠ some p.block) (u : Value) : OwnW64 (w.setCell p u) B v l := ⟨ownsRow_setCell_other h.own hp u⟩
theorem OwnW64.form (h : OwnW64 w B v l) (hn : 0 < l.length) : ∃ g cap, v = .slice (some ⟨g, 0, none⟩) l.length cap ∧ B ≤ g ∧ g < w.heap.size ∧ l.length ≤ cap := by
  obtain ⟨_, h2⟩ := h.own
  rcases h2 with ⟨rfl, h0⟩ | ⟨g, cap, cur, rfl, hg, hh, hnc, _⟩
  · have : (l.map W64).length = 0 := by simpa using h0
    simp at this; omega
  · refine ⟨g, cap, rfl, hg, ?_, hnc⟩
    rcases Nat.lt_or_ge g w.heap.size with hlt | hge
    · exact hlt
    · rw [Array.getElem?_eq_none hge] at hh; cases hh
theorem OwnW64.cell {g cap : Nat} (h : OwnW64 w B (.slice (some ⟨g, 0, none⟩) l.length cap) l) (i : Nat) (hi : i < l.length) : w.cell? ⟨g, i, none⟩ = some (W64 (Sha64.at_ l i)) := by
  rw [h.own.cellAt i (by omega), List.getElem?_map, List.getElem?_eq_getElem hi]
  simp [Sha64.at_, hi]
theorem ReadsW64.cell {A : Option Addr} {n k : Nat} (h : ReadsW64 w B A n l) (hk : k < n) : ∃ ad, A = some ad ∧ ad.block < B ∧ w.cell? (ad.add k) = some (W64 (Sha64.at_ l k)) := by
  obtain ⟨ad, u, hA, hb, hu, hc⟩ := h.is.at_ hk
  refine ⟨ad, hA, hb, hc.trans ?_⟩
  have hl : k < l.length := by rw [h.len]; exact hk
  rw [List.getElem?_map, List.getElem?_eq_getElem hl] at hu
  simp at hu
  rw [← hu]; simp [Sha64.at_, hl]
theorem OwnW64.reads_any {A : Option Addr} {n c : Nat} (h : OwnW64 w B (.slice A n c) l) : n = l.length ∧ ReadsW64 w w.heap.size A n l := by
  have hn : n = l.length := by
    rcases h.own.2 with ⟨e, h0⟩ | ⟨g, cap, cur, e, _⟩
    · injection e with _ e2 _; have : l.length = 0 := by simpa using h0
      omega
    · injection e
  subst hn
  exact ⟨rfl, rfl, Reads.of_own h.own⟩
theorem OwnW64.slice (h : OwnW64 w B v l) : ∃ A c, v = .slice A l.length c := by
  rcases h.own.2 with ⟨e, h0⟩ | ⟨g, cap, cur, e, _⟩
  · have : l.length = 0 := by simpa using h0
    exact ⟨none, 0, by rw [e, this]⟩
  · exact ⟨_, _, e⟩
theorem Blk.appendedW64 {g : Nat} {t : TypeId} {cs : Array Value} (h : Blk w g t cs) (ho : OwnW64 w B v l) (hg : w.grownBy w' v.ownBlock) (hne : 54 ≠ t) : Blk w' g t cs :=
  h.grown hg fun e => own_blk_ne ho.own h hne e.symm
theorem ReadsW64.one (w : World) (x : UInt64) : ReadsW64 (w.alloc (.cells #[W64 x] 54)) (w.heap.size + 1) (some ⟨w.heap.size, 0, none⟩) 1 [x] := by
  refine ⟨rfl, rfl, fun _ => ⟨_, rfl, by simp, fun j u hu => ?_⟩⟩
  match j, hu with
  | 0, hu =>
    have hb : Blk (w.alloc (.cells #[W64 x] 54)) w.heap.size 54 #[W64 x] := Blk.nu rfl
    have hc := hb.cell 0
    simp at hu
    rw [← hu]
    exact hc
  | j + 1, hu => simp at hu
theorem run_appendW64 {o : Oper} {ρ : Operand → Value} {s x : Operand} (ho : o.op = .call { callee := .builtin .append, args := #[s, x], argTypes := #[95, 95] })
    (hs : ρ s = v) (hown : OwnW64 w B v l) (B' : Nat) (A : Option Addr) (m c : Nat) (ys : List UInt64) (hx : ρ x = .slice A m c) (hr : ReadsW64 w B' A m ys) (hlen : l.length + ys.length ≤ 1099511627776) (hB : B ≤ w.heap.size) :
    ∃ v' w', (execOp ρ o).run Tryz.prog w = .ok (.value v') w' ∧ OwnW64 w' B v' (l ++ ys) ∧ w.grownBy w' v.ownBlock := by
  obtain ⟨i0, hi0, hz0, hz1, hz2⟩ := info_parts u64_info
  have hm := hr.len
  obtain ⟨v', w', hrun, h1, h2, _⟩ := run_append_any (P := Tryz.prog) (w := w) B 95 o.type 54 i0 _ 1 8 Tryz.underlying95 hi0 hz0 hz1 hz2 rfl (by omega) v l.length (l.map W64) hown.own B' A m c (ys.map W64) hr.is (by intro u hu; obtain ⟨x, _, rfl⟩ := List.mem_map.1 hu; rfl) (by unfold maxLen; omega) (by omega) hB
  refine ⟨v', w', ?_, ⟨?_⟩, h2⟩
  · unfold execOp
    simp only [ho, resolve, invoke, builtin, Sem.run_bind, Sem.run_pure, Result.andThen_ok, List.map_toArray, List.map_cons, List.map_nil, hs, hx, hrun]
  · rw [List.length_append, hm, List.map_append]; exact h1
set_option maxRecDepth 100000 in
/-- .. and what was read before behind the slice's own address is read there still. -/
theorem run_appendKeep64 {o : Oper} {ρ : Operand → Value} {s x : Operand} (ho : o.op = .call { callee := .builtin .append, args := #[s, x], argTypes := #[95, 95] })
    (g cap : Nat) (hs : ρ s = .slice (some ⟨g, 0, none⟩) l.length cap) (hown : OwnW64 w B (.slice (some ⟨g, 0, none⟩) l.length cap) l) (hl : 0 < l.length) (B' : Nat) (ad : Addr) (c : Nat) (y : UInt64) (hx : ρ x = .slice (some ad) 1 c) (hr : ReadsW64 w B' (some ad) 1 [y]) (hlen : l.length + 1 ≤ 1099511627776) (hB : B ≤ w.heap.size) :
    ∃ v' w', (execOp ρ o).run Tryz.prog w = .ok (.value v') w' ∧ OwnW64 w' B v' (l ++ [y]) ∧ w.grownBy w' (some g) ∧ ∀ i, i < l.length → w'.cell? ⟨g, i, none⟩ = some (W64 (Sha64.at_ l i)) := by
  obtain ⟨v', w', hrun, h1, h2⟩ := run_appendW64 ho hs hown B' (some ad) 1 c [y] hx hr hlen hB
  refine ⟨v', w', hrun, h1, h2, fun i hi => ?_⟩
  obtain ⟨i0, hi0, hz0, hz1, hz2⟩ := info_parts u64_info
  obtain ⟨ad', hA, _, hc⟩ := hr.is.2 (by omega)
  injection hA with hA
  subst hA
  have hc1 : ∀ j u, ([y].map W64)[j]? = some u → w.cell? (ad.add j) = some u := hc
  have hone : ∀ u ∈ [y].map W64, u.oneCell' = true := by intro u hu; obtain ⟨x, _, rfl⟩ := List.mem_map.1 hu; rfl
  have hold : ∀ j u, (l.map W64)[j]? = some u → w.cell? ((⟨g, 0, none⟩ : Addr).add j) = some u := fun j u hu => by
    have hj : j < l.length := by
      rcases Nat.lt_or_ge j l.length with h | h
      · exact h
      · rw [List.getElem?_eq_none (by simpa using h)] at hu; cases hu
    have hadd : (⟨g, 0, none⟩ : Addr).add j = ⟨g, j, none⟩ := by unfold Addr.add; split <;> simp_all
    rw [hadd, hown.cell j hj, ← hu, List.getElem?_map, List.getElem?_eq_getElem hj]
    simp [Sha64.at_, hj]
  have hrun2 : (Builtin.append_ #[95, 95] o.type #[.slice (some ⟨g, 0, none⟩) l.length cap, .slice (some ad) 1 c]).run Tryz.prog w = .ok v' w' := by
    unfold execOp at hrun
    simp only [ho, resolve, invoke, builtin, Sem.run_bind, Sem.run_pure, Result.andThen_ok, List.map_toArray, List.map_cons, List.map_nil, hs, hx] at hrun
    cases hq : (Builtin.append_ #[95, 95] o.type #[.slice (some ⟨g, 0, none⟩) l.length cap, .slice (some ad) 1 c]).run Tryz.prog w with
    | halt x w2 => rw [hq] at hrun; simp at hrun
    | ok v2 w2 => rw [hq] at hrun; simp at hrun; rw [hrun.1, hrun.2]
  by_cases hroom : l.length + 1 ≤ cap
  · obtain ⟨g', cap', cur, e', _, hh, _, _, hsz, _⟩ : ∃ g' cap' cur, Value.slice (some ⟨g, 0, none⟩) l.length cap = .slice (some ⟨g', 0, none⟩) l.length cap' ∧ B ≤ g' ∧ w.heap[g']? = some (.cells cur 54 (0, 0)) ∧ l.length ≤ cap' ∧ cap' ≤ maxLen ∧ cur.size = cap' * 1 ∧ True := by
      rcases hown.own.2 with ⟨e, _⟩ | ⟨g', cap', cur, e, h1, h2, h3, h4, h5, _⟩
      · cases e
      · exact ⟨g', cap', cur, e, h1, h2, h3, h4, h5, trivial⟩
    injection e' with e1 _ e3
    injection e1 with e1
    injection e1 with e1
    subst e1
    subst e3
    have hblk : Blk w g 54 cur := ⟨hh⟩
    have hrun3 := run_append_room_cells (P := Tryz.prog) (w := w) 95 o.type 54 i0 Tryz.underlying95 hi0 g 0 l.length cap ad 1 c ([y].map W64) (by rw [hz1]; rfl) hc1 hone hroom
      (fun j hj => by
        have : j = 0 := by simpa using hj
        subst this
        rw [hz1, hblk.cell, Array.getElem?_eq_getElem (by omega)]; rfl)
      (fun j _ => hown.own.frozenAt _)
    rw [hrun2] at hrun3
    injection hrun3 with hv hw
    subst hv
    obtain ⟨hn, _⟩ := h1.reads_any
    have h1' : OwnW64 w' B (.slice (some ⟨g, 0, none⟩) (l ++ [y]).length cap) (l ++ [y]) := by rw [← hn]; exact h1
    rw [h1'.cell i (by rw [List.length_append]; omega)]
    simp only [Sha64.at_]
    rw [List.getD_eq_getElem?_getD, List.getD_eq_getElem?_getD, List.getElem?_append_left hi]
  · obtain ⟨v2, w2, hrun3, _, hg3⟩ := run_append_arg_grows (P := Tryz.prog) (w := w) 95 o.type 54 i0 _ 1 8 Tryz.underlying95 hi0 hz0 hz1 hz2 rfl (by omega) ⟨g, 0, none⟩ l.length cap (l.map W64) (by simp) hold ad 1 c ([y].map W64) rfl hc1 (by omega) (by unfold maxLen; omega) (by omega)
    rw [hrun2] at hrun3
    injection hrun3 with _ hw
    subst hw
    rw [World.cell?_of_block (hg3.block g (hown.own.lt g rfl).2 (by simp))]
    exact hown.cell i hi
end
theorem run_appendKeepV64 {w : World} {B : Nat} {l : List UInt64} {γ : Type} {C : Value → World → γ → Prop} {o : Oper} {ρ : Operand → Value} {s x : Operand} (ho : o.op = .call { callee := .builtin .append, args := #[s, x], argTypes := #[95, 95] })
    (g cap : Nat) (hs : ρ s = .slice (some ⟨g, 0, none⟩) l.length cap) (hown : OwnW64 w B (.slice (some ⟨g, 0, none⟩) l.length cap) l) (hl : 0 < l.length) (B' : Nat) (ad : Addr) (c : Nat) (y : UInt64) (hx : ρ x = .slice (some ad) 1 c) (hr : ReadsW64 w B' (some ad) 1 [y]) (hlen : l.length + 1 ≤ 1099511627776) (hB : B ≤ w.heap.size)
    (h : ∀ v' w', OwnW64 w' B v' (l ++ [y]) → w.grownBy w' (some g) → (∀ i, i < l.length → w'.cell? ⟨g, i, none⟩ = some (W64 (Sha64.at_ l i))) → ∃ q, C v' w' q) : ∃ v' w' q, (execOp ρ o).run Tryz.prog w = .ok (.value v') w' ∧ C v' w' q := by
  obtain ⟨v', w', h0, h1, h2, h3⟩ := run_appendKeep64 ho g cap hs hown hl B' ad c y hx hr hlen hB
  obtain ⟨q, hq⟩ := h v' w' h1 h2 h3
  exact ⟨v', w', q, h0, hq⟩
section
variable {w : World} {ops : Array Oper} {rest : List Oper} {o : Oper} {a : Act} {Q : Exit → Act → World → Prop}
theorem wpl_appendW64 (hgd : o.guard = none) (s x : Operand) (ho : o.op = .call { callee := .builtin .append, args := #[s, x], argTypes := #[95, 95] })
    (B : Nat) (v : Value) (l : List UInt64) (hs : a.eval s = v) (hown : OwnW64 w B v l) (B' : Nat) (A : Option Addr) (m c : Nat) (ys : List UInt64) (hx : a.eval x = .slice A m c) (hr : ReadsW64 w B' A m ys)
    (hlen : l.length + ys.length ≤ 1099511627776) (hB : B ≤ w.heap.size)
    (h : ∀ v' w', OwnW64 w' B v' (l ++ ys) → w.grownBy w' v.ownBlock → wpList Tryz.prog ops Q rest (a.put o.dst v') w') : wpList Tryz.prog ops Q (o :: rest) a w := by
  obtain ⟨v', w', hrun, h1, h2⟩ := run_appendW64 (ρ := a.eval) ho hs hown B' A m c ys hx hr hlen hB
  exact wpList_plain hgd fun K hK => by
    unfold Oper.wp
    rw [hrun]
    exact hK _ _ (h v' w' h1 h2)
end
theorem run_buildW64 {w : World} {o : Oper} {ρ : Operand → Value} {x : Operand} (ho : o.op = .buildSlice 95 1 #[(0, x)]) (y : UInt64) (hx : ρ x = .int .u64 ((n64 y : Nat) : Int)) :
    (execOp ρ o).run Tryz.prog w = .ok (.value (.slice (some ⟨w.heap.size, 0, none⟩) 1 1)) (w.alloc (.cells #[W64 y] 54)) := by
  unfold execOp
  simp only [ho]
  simp [go_sem, hx]
  rfl

end Go.Proofs.YtbcboldepghgpaaGreatDoor
