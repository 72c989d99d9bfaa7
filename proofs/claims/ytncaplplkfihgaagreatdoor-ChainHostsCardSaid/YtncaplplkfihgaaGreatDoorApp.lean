/-
  Slices of bytes that the call itself made: append, index, cut.
-/
import Derived.Test.YtncaplplkfihgaaGreatDoorTy
import Derived.Maps.AppendAt
import Derived.Deep.AppendLies
import Derived.RegionTactic
import Derived.OwnWalk
set_option linter.unusedVariables false
set_option linter.unusedSimpArgs false
set_option maxRecDepth 100000
namespace Go.Proofs.YtncaplplkfihgaaGreatDoor
open Go.RowKit
section
variable {P : Program} (w : World)

theorem run_append_of_nil (base : Nat) (t ty e : TypeId) (i : TypeInfo) (size : Nat) (ht : P.underlying t = some (.slice e)) (hi : P.info? e = some i)
    (v : Value) (n : Nat) (xs : List Value) (hown : w.ownsRow base e size v n xs) (c : Nat) : (Builtin.append_ #[t, t] ty #[v, .slice none 0 c]).run P w = .ok v w := by
  rcases hown.2 with ⟨rfl, rfl⟩ | ⟨g, cap, cur, rfl, _, _, hnc, _⟩
  · simp [Builtin.append_, run_underlying ht, sizeOf, typeInfo, hi, Builtin.lenOf, Builtin.firstCells]
  · simp [Builtin.append_, run_underlying ht, sizeOf, typeInfo, hi, Builtin.lenOf, Builtin.firstCells, hnc, storeCells]

theorem run_append_any (base : Nat) (t ty e : TypeId) (i : TypeInfo) (z : Value) (size bytes : Nat) (ht : P.underlying t = some (.slice e)) (hi : P.info? e = some i) (hz : i.zero = some z)
    (hsize : i.size = size) (hby : i.bytes = bytes) (hzs : z.cells.size = size) (hsz : 0 < size)
    (v : Value) (n : Nat) (xs : List Value) (hown : w.ownsRow base e size v n xs)
    (B : Nat) (A : Option Addr) (m c : Nat) (news : List Value) (hr : Reads w B size A m news) (h1 : ∀ u ∈ news, u.oneCell' = true)
    (h63 : n + m ≤ maxLen) (hbytes : (n + m) * bytes ≤ 140737488355328) (hbase : base ≤ w.heap.size) :
    ∃ v' w', (Builtin.append_ #[t, t] ty #[v, .slice A m c]).run P w = .ok v' w' ∧ w'.ownsRow base e size v' (n + m) (xs ++ news) ∧ w.grownBy w' v.ownBlock ∧
      (v'.ownBlock = v.ownBlock ∨ v'.ownBlock = some w.heap.size) := by
  rcases A with _ | ad
  · have hm : m = 0 := by
      rcases Nat.eq_zero_or_pos m with h0 | h0
      · exact h0
      · obtain ⟨ad, h, _⟩ := hr.2 h0
        cases h
    subst hm
    have hn : news = [] := List.eq_nil_of_length_eq_zero (by simpa using hr.1)
    subst hn
    exact ⟨v, w, run_append_of_nil w base t ty e i size ht hi v n xs hown c, by simpa using hown, World.grownBy.refl w _, .inl rfl⟩
  · have hcells : ∀ j u, news[j]? = some u → w.cell? (ad.add j) = some u := by
      intro j u hu
      rcases Nat.eq_zero_or_pos m with h0 | h0
      · subst h0
        have hn : news = [] := List.eq_nil_of_length_eq_zero (by simpa using hr.1)
        subst hn
        simp at hu
      · obtain ⟨ad', h, _, hc⟩ := hr.2 h0
        injection h with h
        subst h
        exact hc j u hu
    obtain ⟨v', w', hrun, h2, h3, _, h5⟩ := run_append_own_at (P := P) w base t ty e i z size bytes ht hi hz hsize hby hzs hsz v n xs hown ad m c news hr.1 hcells h1 h63 hbytes hbase
    exact ⟨v', w', hrun, h2, h3, h5⟩

theorem wp_append_any {o : Oper} {a : Act} {K : Act → World → Prop} {Q : Exit → Act → World → Prop} (s x : Operand) (t : TypeId)
    (ho : o.op = .call { callee := .builtin .append, args := #[s, x], argTypes := #[t, t] })
    (base : Nat) (e : TypeId) (i : TypeInfo) (z : Value) (size bytes : Nat) (ht : P.underlying t = some (.slice e)) (hi : P.info? e = some i) (hz : i.zero = some z)
    (hsize : i.size = size) (hby : i.bytes = bytes) (hzs : z.cells.size = size) (hsz : 0 < size)
    (v : Value) (n : Nat) (xs : List Value) (hs : a.eval s = v) (hown : w.ownsRow base e size v n xs)
    (B : Nat) (A : Option Addr) (m c : Nat) (news : List Value) (hx : a.eval x = .slice A m c) (hr : Reads w B size A m news) (h1 : ∀ u ∈ news, u.oneCell' = true)
    (h63 : n + m ≤ maxLen) (hbytes : (n + m) * bytes ≤ 140737488355328) (hbase : base ≤ w.heap.size)
    (h : ∀ v' w', w'.ownsRow base e size v' (n + m) (xs ++ news) → w.grownBy w' v.ownBlock → (v'.ownBlock = v.ownBlock ∨ v'.ownBlock = some w.heap.size) → K (a.put o.dst v') w') : o.wp P a w K Q := by
  obtain ⟨v', w', hrun, h2, h3, h4⟩ := run_append_any (P := P) w base t o.type e i z size bytes ht hi hz hsize hby hzs hsz v n xs hown B A m c news hr h1 h63 hbytes hbase
  unfold Oper.wp execOp
  simp only [ho, resolve, invoke, builtin, Sem.run_bind, Sem.run_pure, Result.andThen_ok, List.map_toArray, List.map_cons, List.map_nil, hs, hx, hrun]
  exact h v' w' h2 h3 h4

theorem wpList_append_any {ops : Array Oper} {rest : List Oper} {o : Oper} {a : Act} {Q : Exit → Act → World → Prop} (hgd : o.guard = none) (s x : Operand) (t : TypeId)
    (ho : o.op = .call { callee := .builtin .append, args := #[s, x], argTypes := #[t, t] })
    (base : Nat) (e : TypeId) (i : TypeInfo) (z : Value) (size bytes : Nat) (ht : P.underlying t = some (.slice e)) (hi : P.info? e = some i) (hz : i.zero = some z)
    (hsize : i.size = size) (hby : i.bytes = bytes) (hzs : z.cells.size = size) (hsz : 0 < size)
    (v : Value) (n : Nat) (xs : List Value) (hs : a.eval s = v) (hown : w.ownsRow base e size v n xs)
    (B : Nat) (A : Option Addr) (m c : Nat) (news : List Value) (hx : a.eval x = .slice A m c) (hr : Reads w B size A m news) (h1 : ∀ u ∈ news, u.oneCell' = true)
    (h63 : n + m ≤ maxLen) (hbytes : (n + m) * bytes ≤ 140737488355328) (hbase : base ≤ w.heap.size)
    (h : ∀ v' w', w'.ownsRow base e size v' (n + m) (xs ++ news) → w.grownBy w' v.ownBlock → (v'.ownBlock = v.ownBlock ∨ v'.ownBlock = some w.heap.size) → wpList P ops Q rest (a.put o.dst v') w') : wpList P ops Q (o :: rest) a w :=
  wpList_plain hgd fun _ hK => wp_append_any w s x t ho base e i z size bytes ht hi hz hsize hby hzs hsz v n xs hs hown B A m c news hx hr h1 h63 hbytes hbase fun v' w' h2 h3 h4 => hK _ _ (h v' w' h2 h3 h4)

theorem step_append_any {ops : Array Oper} {o : Oper} {a : Act} {K : Act → World → Prop} {Q : Exit → Act → World → Prop} {E : Prop} (hgd : o.guard = none) (s x : Operand) (t : TypeId)
    (ho : o.op = .call { callee := .builtin .append, args := #[s, x], argTypes := #[t, t] })
    (base : Nat) (e : TypeId) (i : TypeInfo) (z : Value) (size bytes : Nat) (ht : P.underlying t = some (.slice e)) (hi : P.info? e = some i) (hz : i.zero = some z)
    (hsize : i.size = size) (hby : i.bytes = bytes) (hzs : z.cells.size = size) (hsz : 0 < size)
    (v : Value) (n : Nat) (xs : List Value) (hs : a.eval s = v) (hown : w.ownsRow base e size v n xs)
    (B : Nat) (A : Option Addr) (m c : Nat) (news : List Value) (hx : a.eval x = .slice A m c) (hr : Reads w B size A m news) (h1 : ∀ u ∈ news, u.oneCell' = true)
    (h63 : n + m ≤ maxLen) (hbytes : (n + m) * bytes ≤ 140737488355328) (hbase : base ≤ w.heap.size)
    (h : ∀ v' w', w'.ownsRow base e size v' (n + m) (xs ++ news) → w.grownBy w' v.ownBlock → (v'.ownBlock = v.ownBlock ∨ v'.ownBlock = some w.heap.size) → K (a.put o.dst v') w') :
    if Region.wanted o (yielded ops a.tmps) = true then Oper.wp P o a w K Q else E := by
  have hw : Region.wanted o (yielded ops a.tmps) = true := by simp [Region.wanted, hgd]
  rw [if_pos hw]
  exact wp_append_any w s x t ho base e i z size bytes ht hi hz hsize hby hzs hsz v n xs hs hown B A m c news hx hr h1 h63 hbytes hbase h
end

theorem u8_info : (Tryz.prog.info? 5).map (fun i => (i.zero, i.size, i.bytes)) = some (some (.int .u8 0), 1, 1) := by kernel_rfl
/-- The slice value v, made by the call itself (blocks from B on), holds the bytes l. -/
structure OwnB (w : World) (B : Nat) (v : Value) (l : List UInt8) : Prop where
  own : w.ownsRow B 5 1 v l.length (l.map U8)
/-- A slice value that came in, or that nobody writes: it holds the bytes l. -/
structure ReadsB (w : World) (B : Nat) (A : Option Addr) (n : Nat) (l : List UInt8) : Prop where
  len : l.length = n
  is : Reads w B 1 A n (l.map U8)
section
variable {w w' : World} {B : Nat} {v : Value} {l : List UInt8}
theorem OwnB.nil (w : World) (B : Nat) : OwnB w B (.slice none 0 0) [] := ⟨⟨by simp, .inl ⟨rfl, rfl⟩⟩⟩
theorem OwnB.drew (h : OwnB w B v l) : OwnB w.drew B v l := ⟨h.own.drew⟩
theorem OwnB.drewN (h : OwnB w B v l) (n : Nat) : OwnB (w.drewN n) B v l := ⟨h.own⟩
theorem OwnB.alloc (h : OwnB w B v l) (o : Obj) : OwnB (w.alloc o) B v l := ⟨h.own.alloc o⟩
theorem OwnB.form (h : OwnB w B v l) (hn : 0 < l.length) : ∃ g cap, v = .slice (some ⟨g, 0, none⟩) l.length cap ∧ B ≤ g ∧ g < w.heap.size ∧ l.length ≤ cap := by
  obtain ⟨_, h2⟩ := h.own
  rcases h2 with ⟨rfl, h0⟩ | ⟨g, cap, cur, rfl, hg, hh, hnc, _⟩
  · have : (l.map U8).length = 0 := by simpa using h0
    simp at this; omega
  · refine ⟨g, cap, rfl, hg, ?_, hnc⟩
    rcases Nat.lt_or_ge g w.heap.size with hlt | hge
    · exact hlt
    · rw [Array.getElem?_eq_none hge] at hh; cases hh
theorem OwnB.cell {g cap : Nat} (h : OwnB w B (.slice (some ⟨g, 0, none⟩) l.length cap) l) (i : Nat) (hi : i < l.length) : w.cell? ⟨g, i, none⟩ = some (.int .u8 (n8 (nth l i))) := by
  rw [h.own.cellAt i (by omega), List.getElem?_map, List.getElem?_eq_getElem hi]
  simp [nth, hi]
theorem OwnB.frozen {g cap : Nat} (h : OwnB w B (.slice (some ⟨g, 0, none⟩) l.length cap) l) (i : Nat) : w.frozen? ⟨g, i, none⟩ = false := h.own.frozenAt i
theorem OwnB.set_ {g cap : Nat} (h : OwnB w B (.slice (some ⟨g, 0, none⟩) l.length cap) l) (i : Nat) (x : UInt8) : OwnB (w.setCell ⟨g, i, none⟩ (.int .u8 (n8 x))) B (.slice (some ⟨g, 0, none⟩) l.length cap) (l.set i x) := by
  have := h.own.stored i (.int .u8 (n8 x))
  exact ⟨by rw [List.length_set, List.map_set]; exact this.1⟩
theorem OwnB.far {p : Addr} (h : OwnB w B v l) (hp : v.ownBlock ≠ some p.block) (u : Value) : OwnB (w.setCell p u) B v l := ⟨ownsRow_setCell_other h.own hp u⟩
theorem OwnB.cells {g cap : Nat} (h : OwnB w B (.slice (some ⟨g, 0, none⟩) l.length cap) l) (off n : Nat) (hn : off + n ≤ l.length) : Cells w ⟨g, off, none⟩ (((l.drop off).take n).map U8) := by
  refine ⟨fun j u hu => ?_⟩
  have hadd : (⟨g, off, none⟩ : Addr).add j = ⟨g, off + j, none⟩ := by unfold Addr.add; split <;> simp_all
  have hj : j < n := by
    rcases Nat.lt_or_ge j n with hlt | hge
    · exact hlt
    · rw [List.getElem?_eq_none (by simp; omega)] at hu; cases hu
  rw [hadd, h.cell (off + j) (by omega)]
  rw [List.getElem?_map, List.getElem?_take, if_pos hj, List.getElem?_drop, List.getElem?_eq_getElem (by omega)] at hu
  simp at hu
  rw [← hu]; simp [nth, show off + j < l.length by omega]
theorem OwnB.reads {g cap : Nat} (h : OwnB w B (.slice (some ⟨g, 0, none⟩) l.length cap) l) : ReadsB w w.heap.size (some ⟨g, 0, none⟩) l.length l := ⟨rfl, Reads.of_own h.own⟩
theorem OwnB.size (h : OwnB w B v l) : v.ownBlock = none ∨ ∃ g, v.ownBlock = some g ∧ B ≤ g ∧ g < w.heap.size := by
  cases hv : v.ownBlock with
  | none => exact .inl rfl
  | some g => exact .inr ⟨g, rfl, h.own.lt g hv⟩
theorem Blk.appended {g : Nat} {t : TypeId} {cs : Array Value} (h : Blk w g t cs) (ho : OwnB w B v l) (hg : w.grownBy w' v.ownBlock) (hne : 5 ≠ t) : Blk w' g t cs := by
  refine h.grown hg ?_
  intro he
  obtain ⟨_, h2⟩ := ho.own
  rcases h2 with ⟨rfl, _⟩ | ⟨g', cap, cur, rfl, _, hh, _⟩
  · simp [Value.ownBlock] at he
  · have : g' = g := by simpa [Value.ownBlock] using he.symm
    subst this
    have hb := h.is
    rw [hh] at hb
    injection hb with hb
    injection hb with _ ht
    exact hne ht
theorem below_appended {a : World} {B' : Nat} (h : Below B' a w) (ho : OwnB w B v l) (hg : w.grownBy w' v.ownBlock) (hB : B' ≤ B) (hs : B' ≤ w.heap.size) : Below B' a w' :=
  h.grown hg hs fun k hk => Nat.le_trans hB (ho.own.lt k hk).1
end
section
variable {w : World} {ops : Array Oper} {rest : List Oper} {o : Oper} {a : Act} {Q : Exit → Act → World → Prop}
theorem wpl_appendB (hgd : o.guard = none) (s x : Operand) (ho : o.op = .call { callee := .builtin .append, args := #[s, x], argTypes := #[37, 37] })
    (B : Nat) (v : Value) (l : List UInt8) (hs : a.eval s = v) (hown : OwnB w B v l) (B' : Nat) (A : Option Addr) (m c : Nat) (ys : List UInt8) (hx : a.eval x = .slice A m c) (hr : ReadsB w B' A m ys)
    (hlen : l.length + ys.length ≤ 140737488355328) (hB : B ≤ w.heap.size)
    (h : ∀ v' w', OwnB w' B v' (l ++ ys) → w.grownBy w' v.ownBlock → (v'.ownBlock = v.ownBlock ∨ v'.ownBlock = some w.heap.size) → wpList Tryz.prog ops Q rest (a.put o.dst v') w') : wpList Tryz.prog ops Q (o :: rest) a w := by
  obtain ⟨i0, hi0, hz0, hz1, hz2⟩ := info_parts u8_info
  have hm := hr.len
  refine wpList_append_any w hgd s x _ ho B 5 i0 _ 1 1 Tryz.underlying37 hi0 hz0 hz1 hz2 rfl (by omega) v l.length (l.map U8) hs hown.own B' A m c (ys.map U8) hx hr.is (by simp [Value.oneCell']) (by unfold maxLen; omega) (by omega) hB ?_
  intro v' w' h1 h2 h3
  refine h v' w' ⟨?_⟩ h2 h3
  rw [List.length_append, hm, List.map_append]; exact h1
end
section
variable {w w' : World} {z : Nat}
theorem grew_alloc (h : w.grownBy w' (some z)) (o : Obj) : w.grownBy (w'.alloc o) (some z) :=
  ⟨h.os, h.tape, h.output, Nat.le_trans h.size (by simp), fun i hi hne => (Below.heap_alloc w' o i (Nat.lt_of_lt_of_le hi h.size)).trans (h.block i hi hne)⟩
theorem grew_drewN (h : w.grownBy w' (some z)) (n : Nat) : w.grownBy (w'.drewN n) (some z) := ⟨h.os, h.tape, h.output, h.size, h.block⟩
theorem grew_drew (h : w.grownBy w' (some z)) : w.grownBy w'.drew (some z) := ⟨h.os, h.tape, h.output, h.size, h.block⟩
theorem grew_setRow (h : w.grownBy w' (some z)) (cs : Array Value) : w.grownBy (w'.setRow z cs) (some z) :=
  ⟨h.os, h.tape, h.output, by simpa using h.size, fun i hi hne => by
    have : (w'.setRow z cs).heap[i]? = w'.heap[i]? := by
      simp only [World.setRow, Array.getElem?_modify]; rw [if_neg (fun e => hne (by rw [e]))]
    exact this.trans (h.block i hi hne)⟩
theorem grew_setCell (h : w.grownBy w' (some z)) (i : Nat) (u : Value) : w.grownBy (w'.setCell ⟨z, i, none⟩ u) (some z) :=
  ⟨h.os, h.tape, h.output, by simpa using h.size, fun k hk hne => (Below.heap_setCell w' ⟨z, i, none⟩ u k (fun e => hne (by rw [e]))).trans (h.block k hk hne)⟩
theorem OwnB.moved {B : Nat} {v : Value} {l : List UInt8} (h : OwnB w B v l) (hg : w.grownBy w' (some z)) (hv : v.ownBlock ≠ some z) : OwnB w' B v l := ⟨h.own.kept hg (.inr hv)⟩
theorem below_moved {a : World} {B : Nat} (h : Below B a w) (hg : w.grownBy w' (some z)) (hB : B ≤ z) (hs : B ≤ w.heap.size) : Below B a w' := h.grown hg hs fun k hk => by injection hk; omega
end
theorem ReadsB.one (w : World) (x : UInt8) : ReadsB (w.alloc (.cells #[.int .u8 (n8 x)] 5)) (w.heap.size + 1) (some ⟨w.heap.size, 0, none⟩) 1 [x] := by
  refine ⟨rfl, rfl, fun _ => ⟨_, rfl, Nat.lt_succ_self _, fun j u hu => ?_⟩⟩
  rcases j with _ | j
  · have e : U8 x = u := by injection hu
    subst e
    rw [Addr.add_zero']
    exact (Blk.nu (w := w) (t := 5) (cs := #[.int .u8 (n8 x)]) rfl).cell 0
  · have : (none : Option Value) = some u := hu
    cases this
/-- One element of an array that lies in a slot. -/
theorem run_index_arr {P : Program} {w : World} {ty elem : TypeId} {n : Nat} (hu : P.underlying ty = some (.array n elem)) (hi : (P.info? elem).map (·.size) = some 1) (ha : ((P.underlying elem).map isAggD) = some false) (l : List UInt8) (hl : l.length = n) (j : Nat) (hj : j < n) :
    (Instr.index ty (.agg (arr l)) (.int .i64 (j : Int))).run P w = .ok (.int .u8 (n8 (nth l j))) w := by
  have hag : (isAgg elem).run P w = .ok false w := by
    cases hd : P.underlying elem with
    | none => simp [hd] at ha
    | some d =>
      unfold isAgg
      rw [Sem.run_bind, run_underlying hd w]
      rw [hd] at ha
      cases d <;> simp_all [isAggD]
  have hg := arr_get l j (by omega)
  have hjn : (j : Int) < (n : Int) := by omega
  simp [Instr.index, asIntOf, run_underlying hu, run_sizeOf hi, part, hag, hjn, hg]
  omega
section
variable {w w' : World} {base base' : Nat} {e e' : TypeId} {size size' n n' : Nat} {v v' : Value} {xs xs' : List Value}
theorem own_heap (h : w.ownsRow base e size v n xs) (g : Nat) (hg : v.ownBlock = some g) : ∃ cur, w.heap[g]? = some (.cells cur e (0, 0)) := by
  obtain ⟨_, h2⟩ := h
  rcases h2 with ⟨rfl, _⟩ | ⟨g', cap, cur, rfl, _, hh, _⟩
  · simp [Value.ownBlock] at hg
  · have : g' = g := by simpa [Value.ownBlock] using hg
    subst this
    exact ⟨cur, hh⟩
/-- Two rows of unlike element types lie in two blocks. -/
theorem own_own_ne (h : w.ownsRow base e size v n xs) (h' : w.ownsRow base' e' size' v' n' xs') (hne : e ≠ e') (g : Nat) (hg : v.ownBlock = some g) : v'.ownBlock ≠ some g := by
  intro hg'
  obtain ⟨c1, h1⟩ := own_heap h g hg
  obtain ⟨c2, h2⟩ := own_heap h' g hg'
  rw [h1] at h2
  injection h2 with h2
  injection h2 with _ ht
  exact hne ht
theorem own_blk_ne (h : w.ownsRow base e size v n xs) {g : Nat} {t : TypeId} {cs : Array Value} (hb : Blk w g t cs) (hne : e ≠ t) : v.ownBlock ≠ some g := by
  intro hg
  obtain ⟨c1, h1⟩ := own_heap h g hg
  have h2 := hb.is
  rw [h1] at h2
  injection h2 with h2
  injection h2 with _ ht
  exact hne ht
theorem own_cells {g cap : Nat} (h : w.ownsRow base e size (.slice (some ⟨g, 0, none⟩) n cap) n xs) (off : Nat) (ys : List Value) (hy : ∀ j u, ys[j]? = some u → xs[off + j]? = some u) : Cells w ⟨g, off, none⟩ ys := by
  refine ⟨fun j u hu => ?_⟩
  have hadd : (⟨g, off, none⟩ : Addr).add j = ⟨g, off + j, none⟩ := by unfold Addr.add; split <;> simp_all
  have h1 := hy j u hu
  have hlt : off + j < xs.length := by
    rcases Nat.lt_or_ge (off + j) xs.length with hlt | hge
    · exact hlt
    · rw [List.getElem?_eq_none hge] at h1; cases h1
  rw [hadd, h.cellAt (off + j) (by rw [← h.1]; exact hlt)]
  exact h1
theorem Cells.grown {ad : Addr} {ys : List Value} {row : Option Nat} (h : Cells w ad ys) (hg : w.grownBy w' row) (hb : ad.block < w.heap.size) (hr : some ad.block ≠ row) : Cells w' ad ys :=
  h.keep fun p hp => World.cell?_of_block (hg.block p.block (by omega) (by rw [hp]; exact hr))
theorem Cells.alloc {ad : Addr} {ys : List Value} (h : Cells w ad ys) (hb : ad.block < w.heap.size) (o : Obj) : Cells (w.alloc o) ad ys :=
  h.keep fun p hp => World.cell?_alloc_lt w o p (by omega)
end
section
variable {P : Program} {w : World} {o : Oper} {a : Act} {K : Act → World → Prop} {Q : Exit → Act → World → Prop} {ops : Array Oper} {E : Prop}
/-- A whole array loaded, and a slice turned into an array, inside a region that draws. -/
theorem step_load (hgd : o.guard = none) (ty : TypeId) (x : Operand) (ho : o.op = .load ty x) (ad : Addr) (hx : a.eval x = .pointer (some ad)) (n : Nat) (ht : AggT P ty n) (xs : List Value) (hl : xs.length = n)
    (hc : Cells w ad xs) (h : K (a.put o.dst (.agg xs.toArray)) w) : if Region.wanted o (yielded ops a.tmps) = true then Oper.wp P o a w K Q else E := by
  rw [if_pos (by simp [Region.wanted, hgd])]
  unfold Oper.wp
  rw [run_execOp_load ho hx (run_loadVar_cells ht ad xs hl hc.is)]
  exact h
theorem step_load_arr (hgd : o.guard = none) (ty : TypeId) (x : Operand) (ho : o.op = .load ty x) (ad : Addr) (hx : a.eval x = .pointer (some ad)) (n : Nat) (ht : AggT P ty n) (l : List UInt8) (hl : l.length = n)
    (hc : Cells w ad (l.map U8)) (h : K (a.put o.dst (.agg (arr l))) w) : if Region.wanted o (yielded ops a.tmps) = true then Oper.wp P o a w K Q else E :=
  step_load hgd ty x ho ad hx n ht _ (by rw [List.length_map, hl]) hc h
theorem step_toArray (hgd : o.guard = none) (arr : TypeId) (x : Operand) (ho : o.op = .sliceToArrayPointer arr x) (b : Option Addr) (len cap : Nat) (hx : a.eval x = .slice b len cap)
    {n : Nat} {e : TypeId} (hu : P.underlying arr = some (.array n e)) (hle : n ≤ len) (h : K (a.put o.dst (.pointer b)) w) : if Region.wanted o (yielded ops a.tmps) = true then Oper.wp P o a w K Q else E := by
  rw [if_pos (by simp [Region.wanted, hgd])]
  have hr : (execOp a.eval o).run P w = .ok (.value (.pointer b)) w := by
    unfold execOp
    simp only [ho, hx]
    simp [run_arrayAt hu b len cap hle]
  unfold Oper.wp
  rw [hr]
  exact h
end
end Go.Proofs.YtncaplplkfihgaaGreatDoor
