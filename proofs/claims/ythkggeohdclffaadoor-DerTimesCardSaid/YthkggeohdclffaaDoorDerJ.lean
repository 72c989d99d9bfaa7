/-
  der.Items, where all items are read.
-/
import Derived.Test.YthkggeohdclffaaDoorDerI
import Derived.Maps.AppendAt
import Derived.RangeFuncBox
set_option linter.unusedVariables false
set_option linter.unusedSimpArgs false
set_option maxRecDepth 100000
namespace Go.Proofs.YthkggeohdclffaaDoor
open Go.RowKit
attribute [local go_sem] Oper.semAt_some
theorem each_any (A : Option Addr) (m c : Nat) (w : World) : Calls Tryd.prog 22 #[.slice A m c] w fun e w' => e = .returned (.func (.func 38) #[] #[.pointer (some ⟨w.heap.size, 0, none⟩)]) ∧ w' = w.alloc (.cells #[.slice A m c] 22) := by
  go_enter Tryd.func22, Tryd.ntmps22
  go_wp2
  go_ret
  exact ⟨rfl, rfl⟩
theorem as_nil (t : Value) (w : World) : Calls Tryd.prog 23 #[.nilIface, t] w fun e w' => e = .returned (.bool false) ∧ w' = w := by
  go_enter Tryd.func23, Tryd.ntmps23
  go_wp2
  go_ret
  exact ⟨rfl, rfl⟩
namespace Der
theorem Runs.len {b : List UInt8} {k : Nat} {xs : List Item} (h : Runs b k xs) : xs.length ≤ b.length - k := by
  induction h with
  | done k _ => simp
  | more k r hlt he _ ih =>
    have := next_len b k he
    rw [List.length_cons]
    omega
/-- Items as they lie. -/
def flatI (ys : List X) : List Value := ys.flatMap fun y => y.cells.toList
/-- An own slice of items, each with a body of its own. -/
structure OwnI (w : World) (B : Nat) (v : Value) (ys : List X) : Prop where
  own : w.ownsRow B 25 4 v ys.length (flatI ys)
  bodies : ∀ y ∈ ys, OwnB w B y.2 y.1.body
theorem OwnI.form {w : World} {B : Nat} {v : Value} {ys : List X} (h : OwnI w B v ys) : ∃ A c, v = .slice A ys.length c := by
  rcases h.own.2 with ⟨rfl, h0⟩ | ⟨g, cap, cur, rfl, _⟩
  · exact ⟨none, 0, by rw [h0]⟩
  · exact ⟨_, _, rfl⟩
theorem OwnI.moved {w w' : World} {B l : Nat} {v : Value} {ys : List X} (h : OwnI w B v ys) (hg : w.grownBy w' (some l)) (hl : l < B) : OwnI w' B v ys := by
  refine ⟨h.own.kept hg (.inr ?_), fun y hy => (h.bodies y hy).moved hg ?_⟩
  · rcases h.own.2 with ⟨rfl, _⟩ | ⟨g, cap, cur, rfl, hb, _⟩
    · intro h; cases h
    · intro h; have h2 : g = l := by injection h
      omega
  · rcases (h.bodies y hy).size with e | ⟨g, e, hb, _⟩
    · rw [e]; intro h; cases h
    · rw [e]; intro h; injection h; omega
theorem OwnI.far {w : World} {B : Nat} {v : Value} {ys : List X} (h : OwnI w B v ys) {p : Addr} (hp : p.block < B) (u : Value) : OwnI (w.setCell p u) B v ys := by
  refine ⟨ownsRow_setCell_other h.own ?_ u, fun y hy => (h.bodies y hy).far ?_ u⟩
  · rcases h.own.2 with ⟨rfl, _⟩ | ⟨g, cap, cur, rfl, hb, _⟩
    · intro h; cases h
    · intro h; have h2 : g = p.block := by injection h
      omega
  · rcases (h.bodies y hy).size with e | ⟨g, e, hb, _⟩
    · rw [e]; intro h; cases h
    · rw [e]; intro h; injection h; omega
theorem OwnI.low {w : World} {B B' : Nat} {v : Value} {ys : List X} (h : OwnI w B v ys) (hB : B' ≤ B) : OwnI w B' v ys := by
  refine ⟨⟨h.own.1, ?_⟩, fun y hy => (h.bodies y hy).low hB⟩
  rcases h.own.2 with e | ⟨g, cap, cur, e, hb, r⟩
  · exact .inl e
  · exact .inr ⟨g, cap, cur, e, Nat.le_trans hB hb, r⟩
theorem run_ldc {P : Program} {w : World} {t : TypeId} (hty : ((P.underlying t).map isAggD) = some false) (ad : Addr) (v : Value) (h : w.cell? ad = some v) : (loadVar t ad).run P w = .ok v w := by
  have hag : (isAgg t).run P w = .ok false w := by
    cases hq : P.underlying t with
    | none => simp [hq] at hty
    | some d =>
      unfold isAgg
      rw [Sem.run_bind, run_underlying hq w]
      rw [hq] at hty
      cases d <;> simp_all [isAggD]
  simp [loadVar, Sem.run_bind, hag, go_sem, h]
theorem res3 {P : Program} {w : World} {fn : Func} {tmps : Array Value} {p q r : Tmp} {t1 t2 t3 : TypeId} {a1 a2 a3 : Addr} {v1 v2 v3 : Value} (h : fn.results = #[.cell p t1, .cell q t2, .cell r t3]) (h1 : tmps.getD p undef = .pointer (some a1)) (h2 : tmps.getD q undef = .pointer (some a2)) (h3 : tmps.getD r undef = .pointer (some a3))
    (n1 : ((P.underlying t1).map isAggD) = some false) (n2 : ((P.underlying t2).map isAggD) = some false) (n3 : ((P.underlying t3).map isAggD) = some false) (c1 : w.cell? a1 = some v1) (c2 : w.cell? a2 = some v2) (c3 : w.cell? a3 = some v3) :
    (results fn tmps).run P w = .ok (.tuple #[v1, v2, v3]) w := by
  have g1 : tmps[p]?.getD undef = .pointer (some a1) := by simpa using h1
  have g2 : tmps[q]?.getD undef = .pointer (some a2) := by simpa using h2
  have g3 : tmps[r]?.getD undef = .pointer (some a3) := by simpa using h3
  simp [results, h, g1, g2, g3, asAddr, run_ldc n1 a1 v1 c1, run_ldc n2 a2 v2 c2, run_ldc n3 a3 v3 c3]
theorem OwnI.lt {w : World} {B n c : Nat} {A : Option Addr} {ys : List X} (h : OwnI w B (.slice A n c) ys) : ∀ g, (Value.slice A n c).ownBlock = some g → B ≤ g ∧ g < w.heap.size := by
  intro g hg
  rcases h.own.2 with ⟨e, _⟩ | ⟨g', cap, cur, e, hb, hh, _⟩
  · rw [e] at hg; cases hg
  · rw [e] at hg
    have e2 : g' = g := by injection hg
    subst e2
    refine ⟨hb, ?_⟩
    rcases Nat.lt_or_ge g' w.heap.size with hlt | hge
    · exact hlt
    · rw [Array.getElem?_eq_none hge] at hh; cases hh
theorem OwnI.later {w w' : World} {B : Nat} {v : Value} {ys : List X} (h : OwnI w B v ys) (hb : Below w.heap.size w w') : OwnI w' B v ys := by
  have hg : w.grownBy w' (some w.heap.size) := ⟨hb.os, hb.tape, hb.output, hb.size, fun i hi _ => hb.block i hi⟩
  refine ⟨h.own.kept hg (.inr ?_), fun y hy => (h.bodies y hy).later hb⟩
  obtain ⟨A, c, rfl⟩ := h.form
  intro e
  have := (h.lt _ e).2
  omega
theorem own_types {w : World} {B1 B2 s1 s2 n1 n2 : Nat} {t1 t2 : TypeId} {v1 v2 : Value} {x1 x2 : List Value} (h1 : w.ownsRow B1 t1 s1 v1 n1 x1) (h2 : w.ownsRow B2 t2 s2 v2 n2 x2) (ht : t1 ≠ t2) : v1.ownBlock = none ∨ v1.ownBlock ≠ v2.ownBlock := by
  rcases h1.2 with ⟨rfl, _⟩ | ⟨g, cap, cur, rfl, _, hg, _⟩
  · exact .inl rfl
  · refine .inr fun e => ?_
    rcases h2.2 with ⟨rfl, _⟩ | ⟨g', cap', cur', rfl, _, hg', _⟩
    · cases e
    · have e2 : g = g' := by injection e
      subst e2
      rw [hg] at hg'
      injection hg' with hg'
      injection hg' with _ e3 _
      exact ht e3
theorem OwnI.app {w w' : World} {B : Nat} {v v' : Value} {ys : List X} {x : X} (h : OwnI w B v ys) (hx : OwnB w B x.2 x.1.body) (hg : w.grownBy w' v.ownBlock) (hown : w'.ownsRow B 25 4 v' (ys ++ [x]).length (flatI (ys ++ [x]))) : OwnI w' B v' (ys ++ [x]) := by
  refine ⟨hown, fun y hy => ?_⟩
  have key : ∀ y : X, OwnB w B y.2 y.1.body → OwnB w' B y.2 y.1.body := fun y hb => ⟨hb.own.kept hg (own_types hb.own h.own (by decide))⟩
  rcases List.mem_append.1 hy with h1 | h1
  · exact key y (h.bodies y h1)
  · obtain rfl : y = x := by simpa using h1
    exact key y hx
/-- What lies between two rounds of Items' loop. -/
structure Jt (w : World) (rec : Loop) (pre : List X) (W : World) : Prop where
  r0 : Blk W w.heap.size 32 #[.slice none 0 0]
  r1 : Blk W (w.heap.size + 1) 3 #[.int .i64 0]
  r2 : Blk W (w.heap.size + 1 + 1) 26 #[.int .i64 0]
  own : ∃ v, Blk W (w.heap.size + 1 + 1 + 1) 32 #[v] ∧ OwnI W (w.heap.size + 7) v pre
  dfr : W.heap[w.heap.size + 5]? = some (.deferred (some []))
  loop : W.heap[w.heap.size + 6]? = some (.loop rec)
  below : Below w.heap.size w W
end Der
/-- The outermost range over a function. -/
theorem rf_outer {P : Program} {n : Nat} {g : Operand} {ps : Array Tmp} {assign body : Code} {Q : Exit → Act → World → Prop} {a : Act} {w : World} {gf : Nat} {lb : Array Value} (hg : a.eval g = .func (.func gf) #[] lb) (eg : ∀ args w, (callFunc gf args).run P w = .ok (.enter gf args) w)
    (h : ∀ (fn : Nat) (rec : Loop), rec = { state := .ready, pending := none, fn, tmps := a.tmps, params := ps, assign, body, defers := w.heap.size } →
      CallsIn Fence.wide (n - 1) P gf (#[.func (.yield (w.heap.size + 1)) #[] #[]] ++ lb) ((w.alloc (.deferred (some []))).alloc (.loop rec)) (rangePost Fence.wide n P (w.heap.size + 1) Q { a with defers := [{ target := .collected w.heap.size, args := #[] }] ++ a.defers })) :
    (Code.rangeFunc g ps assign body).wpIn Fence.wide n P Q a w := by
  refine wpIn_rangeFunc ?_
  intro fn _
  obtain ⟨rec, hrec⟩ : ∃ rec : Loop, rec = { state := .ready, pending := none, fn, tmps := a.tmps, params := ps, assign, body, defers := w.heap.size } := ⟨_, rfl⟩
  have he : (Instr.enterLoop fn a.tmps ps assign body Fence.wide.round).run P w = .ok (w.heap.size + 1, [{ target := .collected w.heap.size, args := #[] }]) ((w.alloc (.deferred (some []))).alloc (.loop rec)) := by
    rw [hrec]; exact run_enterLoop_outer _ _ _ _ _
  refine ⟨w.heap.size + 1, [{ target := .collected w.heap.size, args := #[] }], (w.alloc (.deferred (some []))).alloc (.loop rec), { target := .fn (.func gf) lb, args := #[.func (.yield (w.heap.size + 1)) #[] #[]] }, (w.alloc (.deferred (some []))).alloc (.loop rec), gf, #[.func (.yield (w.heap.size + 1)) #[] #[]] ++ lb, (w.alloc (.deferred (some []))).alloc (.loop rec), he, ?_, ?_, ?_, ?_, ?_⟩
  rotate_right
  · exact h fn rec hrec
  · have hg' : (Callee.value g : Callee) = .value g := rfl
    unfold rangeCall
    simp only [resolve, hg]
    simp [go_sem]
  · intro _ _; trivial
  · simp only [invoke]; rw [eg]
  · intro h0; exact absurd h0 (by decide)
theorem enter_each1 (args : Array Value) (w : World) : (callFunc 38 args).run Tryd.prog w = .ok (.enter 38 args) w := by kernel_rfl
theorem item_info : (Tryd.prog.info? 25).map (fun i => (i.zero, i.size, i.bytes)) = some (some (.agg (itemCells 0 (.slice none 0 0) 0 0)), 4, 48) := by kernel_rfl
theorem und_items : Tryd.prog.underlying 32 = some (.slice 25) := by kernel_rfl
set_option maxHeartbeats 4000000 in
set_option maxRecDepth 100000 in
theorem items_runs (A : Option Addr) (m c : Nat) (b : List UInt8) (hmc : m ≤ c) (hm : m ≤ 1000000000) (xs : List Der.Item) (hrun : Der.Runs b 0 xs) (w : World) (hr : ReadsB w w.heap.size A m b) :
    Calls Tryd.prog 12 #[.slice A m c] w fun e w' => ∃ v ys, e = .returned (.tuple #[v, .int .i64 0, .int .i64 0]) ∧ ys.map (·.1) = xs ∧ Der.OwnI w' w.heap.size v ys ∧ Below w.heap.size w w' := by
  refine (callsIn_wide (n := 9)).1 ?_
  refine callsIn_of_wp_marks Tryd.func12 rfl trivial ?_ rfl
  simp only [Tryd.func12, Tryd.ntmps12, List.size_toArray, List.length_cons, List.length_nil, Nat.reduceAdd, Nat.reduceSub, Array.replicate_succ, Array.replicate_zero, List.push_toArray, List.append_toArray, List.nil_append, List.cons_append]
  gi_wp2_with (first
    | (refine ⟨trivial, ?_⟩; refine (callsIn_wide.2 (each_any _ _ _ _)).mono ?_; rintro e w1 ⟨rfl, rfl⟩))
  obtain ⟨W0, HW0⟩ : ∃ x, Hd (((((w.alloc (.cells #[.slice none 0 0] 32)).alloc (.cells #[.int .i64 0] 3)).alloc (.cells #[.int .i64 0] 26)).alloc (.cells #[.slice none 0 0] 32)).alloc (.cells #[.slice A m c] 22) = x) := ⟨_, ⟨rfl⟩⟩
  have hs0 : W0.heap.size = w.heap.size + 5 := by rw [← HW0.out]; simp only [alloc_size]
  have b0 : Blk W0 w.heap.size 32 #[.slice none 0 0] := by rw [← HW0.out]; exact ((((Blk.nu rfl).alloc _).alloc _).alloc _).alloc _
  have b1 : Blk W0 (w.heap.size + 1) 3 #[.int .i64 0] := by rw [← HW0.out]; exact (((Blk.nu (by simp)).alloc _).alloc _).alloc _
  have b2 : Blk W0 (w.heap.size + 1 + 1) 26 #[.int .i64 0] := by rw [← HW0.out]; exact ((Blk.nu (by simp)).alloc _).alloc _
  have b3 : Blk W0 (w.heap.size + 1 + 1 + 1) 32 #[.slice none 0 0] := by rw [← HW0.out]; exact (Blk.nu (by simp)).alloc _
  have b4 : Blk W0 (w.heap.size + 4) 22 #[.slice A m c] := by rw [← HW0.out]; exact Blk.nu (by simp)
  have hB0 : Below w.heap.size w W0 := by rw [← HW0.out]; exact ((((((Below.refl _ w).alloc (Nat.le_refl _) _).alloc (by simp only [alloc_size]; omega) _).alloc (by simp only [alloc_size]; omega) _).alloc (by simp only [alloc_size]; omega) _).alloc (by simp only [alloc_size]; omega) _)
  rw [HW0.out]
  clear HW0
  refine rf_outer (gf := 38) (lb := #[.pointer (some ⟨w.heap.size + 1 + 1 + 1 + 1, 0, none⟩)]) rfl enter_each1 (fun fn rec hrec => ?_)
  rw [hs0]
  have hBl := ((Below.refl W0.heap.size W0).alloc (Nat.le_refl _) (.deferred (some []))).alloc (by rw [alloc_size]; omega) (.loop rec)
  refine (each_runs 8 (w.heap.size + 5 + 1) w.heap.size (w.heap.size + 4) A m c b hmc (by omega) xs hrun (Der.Jt w rec) ?hY _ (by omega) (b4.below hBl b4.lt) ⟨hr.len, hr.is.below (hB0.trans (hBl.mono (by omega)))⟩ ?h0).mono ?post
  case h0 =>
    have hsz : ((W0.alloc (.deferred (some []))).alloc (.loop rec)).heap.size = w.heap.size + 7 := by simp only [alloc_size, hs0]
    refine ⟨b0.below hBl b0.lt, b1.below hBl b1.lt, b2.below hBl b2.lt, ⟨_, b3.below hBl b3.lt, World.ownsRow_nil _ _ _ 4, fun _ h => absurd h List.not_mem_nil⟩, ?_, ?_, hB0.trans (hBl.mono (by omega))⟩
    · have h1 := heap_alloc_new W0 (.deferred (some []))
      rw [hs0] at h1
      exact (Below.heap_alloc _ (.loop rec) _ (by rw [alloc_size, hs0]; omega)).trans h1
    · have h1 := heap_alloc_new (W0.alloc (.deferred (some []))) (.loop rec)
      rw [alloc_size, hs0] at h1
      exact h1
  case hY =>
    intro pre x Wp W hJ hB own hlen
    obtain ⟨⟨tag, body, iat, ilen, ierr⟩, val⟩ := x
    dsimp only at own
    obtain ⟨A1, c1, e1⟩ := own.slice
    subst e1
    unfold Der.X.cells itemCells
    dsimp only
    have hlp : w.heap.size + 6 < Wp.heap.size := (Array.getElem?_eq_some_iff.1 hJ.loop).1
    have hl : W.heap[w.heap.size + 5 + 1]? = some (.loop rec) := (hB.block _ hlp).trans hJ.loop
    have hdd : W.heap[w.heap.size + 5]? = some (.deferred (some [])) := (hB.block _ (by omega)).trans hJ.dfr
    have hy := run_yield (P := Tryd.prog) (args := #[.agg #[.int .u8 ((n8 tag : Nat) : Int), .slice A1 body.length c1, .int .i64 iat, .int .i64 (ilen : Int)], .nilIface]) hl (by rw [hrec]; rfl)
    rw [hrec] at hy
    refine ⟨_, _, _, _, hy, roundIn_of_wpIn trivial ?_⟩
    clear hy
    gi_wp2
    obtain ⟨v, bv, ownp⟩ := hJ.own
    obtain ⟨A5, cp5, e5⟩ := ownp.form
    subst e5
    have hvlt := ownp.lt
    have hBa := hB.alloc hB.size (.cells #[.int .u8 ((n8 tag : Nat) : Int), .slice A1 body.length c1, .int .i64 iat, .int .i64 (ilen : Int)] 25)
    obtain ⟨Wa, HWa⟩ : ∃ y, Hd (W.alloc (.cells #[.int .u8 ((n8 tag : Nat) : Int), .slice A1 body.length c1, .int .i64 iat, .int .i64 (ilen : Int)] 25) = y) := ⟨_, ⟨rfl⟩⟩
    have hsa : Wa.heap.size = W.heap.size + 1 := by rw [← HWa.out, alloc_size]
    have bita : Blk Wa W.heap.size 25 #[.int .u8 ((n8 tag : Nat) : Int), .slice A1 body.length c1, .int .i64 iat, .int .i64 (ilen : Int)] := by rw [← HWa.out]; exact Blk.nu rfl
    have hka : ∀ k, k < W.heap.size → Wa.heap[k]? = W.heap[k]? := fun k hk => by rw [← HWa.out]; exact Below.heap_alloc W _ k hk
    rw [HWa.out] at hBa ⊢
    have hla : Wa.heap[w.heap.size + 5 + 1]? = some (.loop rec) := (hka _ (by have := hB.size; omega)).trans hl
    have hda : Wa.heap[w.heap.size + 5]? = some (.deferred (some [])) := (hka _ (by have := hB.size; omega)).trans hdd
    refine ⟨_, run_beginRound hla (by rw [hrec]), ?_⟩
    obtain ⟨rb, Hrb⟩ : ∃ y : Loop, Hd ({ rec with state := .busy } = y) := ⟨_, ⟨rfl⟩⟩
    rw [Hrb.out]
    have hgb : Wa.grownBy (Wa.putObj (w.heap.size + 5 + 1) (.loop rb)) (some (w.heap.size + 5 + 1)) := grownBy_putObj' _ _ _
    have hlb : (Wa.putObj (w.heap.size + 5 + 1) (.loop rb)).heap[w.heap.size + 5 + 1]? = some (.loop rb) := World.putObj_heap_same (Array.getElem?_eq_some_iff.1 hla).1
    obtain ⟨Wb, HWb⟩ : ∃ y, Hd (Wa.putObj (w.heap.size + 5 + 1) (.loop rb) = y) := ⟨_, ⟨rfl⟩⟩
    rw [HWb.out] at hgb hlb ⊢
    have hsb : Wb.heap.size = W.heap.size + 1 := by rw [← HWb.out, World.putObj_size, hsa]
    have hWp := hB.size
    have bit : Blk Wb W.heap.size 25 #[.int .u8 ((n8 tag : Nat) : Int), .slice A1 body.length c1, .int .i64 iat, .int .i64 (ilen : Int)] := bita.grown hgb (by intro e; injection e; omega)
    have bvb : Blk Wb (w.heap.size + 1 + 1 + 1) 32 #[.slice A5 pre.length cp5] := (bv.below hBa bv.lt).grown hgb (by intro e; injection e; omega)
    have ownb : Der.OwnI Wb (w.heap.size + 7) (.slice A5 pre.length cp5) pre := (ownp.later hBa).moved hgb (by omega)
    have bodyb : OwnB Wb (w.heap.size + 7) (.slice A1 body.length c1) body := by
      have h1 := own.alloc (.cells #[.int .u8 ((n8 tag : Nat) : Int), .slice A1 body.length c1, .int .i64 iat, .int .i64 (ilen : Int)] 25)
      rw [HWa.out] at h1
      exact (h1.moved hgb (by rcases h1.size with e | ⟨g, e, h2, _⟩
                              · rw [e]; intro h; cases h
                              · rw [e]; intro h; injection h; omega)).low (by omega)
    have hc3 : (Wb.alloc (.cells #[.int .i64 0, .int .i64 0] 55)).cell? ⟨w.heap.size + 1 + 1 + 1, 0, none⟩ = some (.slice A5 pre.length cp5) := (bvb.alloc _).cell 0
    have hi0 : (Wb.alloc (.cells #[.int .i64 0, .int .i64 0] 55)).cell? ⟨W.heap.size, 0, none⟩ = some (.int .u8 ((n8 tag : Nat) : Int)) := (bit.alloc _).cell 0
    have hi1 : (Wb.alloc (.cells #[.int .i64 0, .int .i64 0] 55)).cell? ⟨W.heap.size, 1, none⟩ = some (.slice A1 body.length c1) := (bit.alloc _).cell 1
    have hi2 : (Wb.alloc (.cells #[.int .i64 0, .int .i64 0] 55)).cell? ⟨W.heap.size, 2, none⟩ = some (.int .i64 iat) := (bit.alloc _).cell 2
    have hi3 : (Wb.alloc (.cells #[.int .i64 0, .int .i64 0] 55)).cell? ⟨W.heap.size, 3, none⟩ = some (.int .i64 (ilen : Int)) := (bit.alloc _).cell 3
    have hin := item_info
    simp only [Option.map_eq_some_iff, Prod.mk.injEq] at hin
    obtain ⟨i0, hii, hiz, his, hib⟩ := hin
    obtain ⟨Wc, HWc⟩ : ∃ y, Hd (Wb.alloc (.cells #[.int .i64 0, .int .i64 0] 55) = y) := ⟨_, ⟨rfl⟩⟩
    have hsc : Wc.heap.size = W.heap.size + 1 + 1 := by rw [← HWc.out, alloc_size, hsb]
    have bdn : Blk (Wc.alloc (.cells #[.int .u8 ((n8 tag : Nat) : Int), .slice A1 body.length c1, .int .i64 iat, .int .i64 (ilen : Int)] 25)) (W.heap.size + 1 + 1) 25 #[.int .u8 ((n8 tag : Nat) : Int), .slice A1 body.length c1, .int .i64 iat, .int .i64 (ilen : Int)] := Blk.nu hsc.symm
    have hcells : ∀ j u, ([.int .u8 ((n8 tag : Nat) : Int), .slice A1 body.length c1, .int .i64 iat, .int .i64 (ilen : Int)] : List Value)[j]? = some u → (Wc.alloc (.cells #[.int .u8 ((n8 tag : Nat) : Int), .slice A1 body.length c1, .int .i64 iat, .int .i64 (ilen : Int)] 25)).cell? ((⟨W.heap.size + 1 + 1, 0, none⟩ : Addr).add j) = some u := bdn.cells.is
    have ownc : Der.OwnI (Wc.alloc (.cells #[.int .u8 ((n8 tag : Nat) : Int), .slice A1 body.length c1, .int .i64 iat, .int .i64 (ilen : Int)] 25)) (w.heap.size + 7) (.slice A5 pre.length cp5) pre := by
      rw [← HWc.out]
      exact (ownb.later ((Below.refl _ _).alloc (Nat.le_refl _) _)).later ((Below.refl _ _).alloc (Nat.le_refl _) _)
    have bodyc : OwnB (Wc.alloc (.cells #[.int .u8 ((n8 tag : Nat) : Int), .slice A1 body.length c1, .int .i64 iat, .int .i64 (ilen : Int)] 25)) (w.heap.size + 7) (.slice A1 body.length c1) body := by
      rw [← HWc.out]
      exact (bodyb.alloc _).alloc _
    have bvc : Blk (Wc.alloc (.cells #[.int .u8 ((n8 tag : Nat) : Int), .slice A1 body.length c1, .int .i64 iat, .int .i64 (ilen : Int)] 25)) (w.heap.size + 1 + 1 + 1) 32 #[.slice A5 pre.length cp5] := by
      rw [← HWc.out]
      exact (bvb.alloc _).alloc _
    have hkc : ∀ k, k < W.heap.size + 1 → (Wc.alloc (.cells #[.int .u8 ((n8 tag : Nat) : Int), .slice A1 body.length c1, .int .i64 iat, .int .i64 (ilen : Int)] 25)).heap[k]? = Wb.heap[k]? := fun k hk => by
      rw [← HWc.out]
      exact (Below.heap_alloc _ _ _ (by rw [alloc_size, hsb]; omega)).trans (Below.heap_alloc _ _ _ (by rw [hsb]; exact hk))
    have hxl := hrun.len
    have hbl := hr.len
    gi_wp2_with (first
      | (gi_at_builtin; refine wpListIn_append_own _ rfl _ _ 32 rfl (w.heap.size + 7) 25 i0 _ 4 48 und_items hii hiz his hib (by rfl) (by decide) (.slice A5 pre.length cp5) pre.length (Der.flatI pre) rfl (HWc.out.symm ▸ ownc.own) ⟨W.heap.size + 1 + 1, 0, none⟩ 1 1 [.int .u8 ((n8 tag : Nat) : Int), .slice A1 body.length c1, .int .i64 iat, .int .i64 (ilen : Int)] rfl rfl (HWc.out.symm ▸ hcells) (by simp [Value.oneCell']) (by unfold maxLen; omega) (by omega) (by simp only [alloc_size, hsb]; omega) ?_; rw [HWc.out]; intro v9 We hown9 hgrow _; obtain ⟨g9, cap9, rfl⟩ := ownsRow_succ hown9; have bve := bvc.grown hgrow (fun e => absurd (hvlt _ e.symm).1 (by omega)); have ce := bve.cell 0; have fe := bve.frozen 0)
      | (refine ⟨trivial, ?_⟩; refine (CallsIn.inRound _ (callsIn_wide.2 (as_nil _ _))).mono ?_; rintro e w1 ⟨rfl, rfl⟩))
    have hne : ∀ k, (k < w.heap.size + 7 ∨ Wp.heap.size ≤ k) → (Value.slice A5 pre.length cp5).ownBlock ≠ some k := fun k hk e => by have := hvlt k e; omega
    have hke : ∀ k, k < W.heap.size + 1 → (k < w.heap.size + 7 ∨ Wp.heap.size ≤ k) → We.heap[k]? = (Wc.alloc (.cells #[.int .u8 ((n8 tag : Nat) : Int), .slice A1 body.length c1, .int .i64 iat, .int .i64 (ilen : Int)] 25)).heap[k]? := fun k hk h => hgrow.block k (by rw [alloc_size, hsc]; omega) (fun e => hne k h e.symm)
    have hkf : ∀ k, k ≠ w.heap.size + 1 + 1 + 1 → (We.setCell ⟨w.heap.size + 1 + 1 + 1, 0, none⟩ (.slice (some ⟨g9, 0, none⟩) (pre.length + 1) cap9)).heap[k]? = We.heap[k]? := fun k hk => Below.heap_setCell _ ⟨w.heap.size + 1 + 1 + 1, 0, none⟩ _ _ hk
    have hlf : (We.setCell ⟨w.heap.size + 1 + 1 + 1, 0, none⟩ (.slice (some ⟨g9, 0, none⟩) (pre.length + 1) cap9)).heap[w.heap.size + 5 + 1]? = some (.loop rb) :=
      (hkf _ (by omega)).trans ((hke _ (by omega) (.inl (by omega))).trans ((hkc _ (by omega)).trans hlb))
    have hend : (Instr.endRound (w.heap.size + 5 + 1) none).run Tryd.prog (We.setCell ⟨w.heap.size + 1 + 1 + 1, 0, none⟩ (.slice (some ⟨g9, 0, none⟩) (pre.length + 1) cap9)) = .ok (.bool true) ((We.setCell ⟨w.heap.size + 1 + 1 + 1, 0, none⟩ (.slice (some ⟨g9, 0, none⟩) (pre.length + 1) cap9)).putObj (w.heap.size + 5 + 1) (.loop rec)) := by
      rw [run_endRound none hlf, ← Hrb.out, hrec]
      rfl
    have own9 : Der.OwnI We (w.heap.size + 7) (.slice (some ⟨g9, 0, none⟩) (pre.length + 1) cap9) (pre ++ [(⟨tag, body, iat, ilen, ierr⟩, .slice A1 body.length c1)]) := ownc.app bodyc hgrow (by rw [List.length_append]; simpa [Der.flatI, Der.X.cells, itemCells] using hown9)
    have hgg : (We.setCell ⟨w.heap.size + 1 + 1 + 1, 0, none⟩ (.slice (some ⟨g9, 0, none⟩) (pre.length + 1) cap9)).grownBy ((We.setCell ⟨w.heap.size + 1 + 1 + 1, 0, none⟩ (.slice (some ⟨g9, 0, none⟩) (pre.length + 1) cap9)).putObj (w.heap.size + 5 + 1) (.loop rec)) (some (w.heap.size + 5 + 1)) := grownBy_putObj' _ _ _
    have ownf := (own9.far (p := ⟨w.heap.size + 1 + 1 + 1, 0, none⟩) (by show w.heap.size + 1 + 1 + 1 < _; omega) (.slice (some ⟨g9, 0, none⟩) (pre.length + 1) cap9)).moved hgg (by omega)
    have bvf := (bve.set_ 0 (.slice (some ⟨g9, 0, none⟩) (pre.length + 1) cap9)).grown hgg (by intro e; injection e; omega)
    have hall : ∀ k, k ≠ w.heap.size + 1 + 1 + 1 → k ≠ w.heap.size + 5 + 1 → (k < w.heap.size + 7 ∨ Wp.heap.size ≤ k) → k < W.heap.size → ((We.setCell ⟨w.heap.size + 1 + 1 + 1, 0, none⟩ (.slice (some ⟨g9, 0, none⟩) (pre.length + 1) cap9)).putObj (w.heap.size + 5 + 1) (.loop rec)).heap[k]? = W.heap[k]? := fun k h1 h2 h3 h4 =>
      (World.putObj_heap_other h2).trans ((hkf k h1).trans ((hke k (by omega) h3).trans ((hkc k (by omega)).trans ((hgb.block k (by omega) (by intro e; injection e; omega)).trans (hka k h4)))))
    have hBw : Below w.heap.size w Wb := (hJ.below.trans (hBa.mono (by omega))).grown hgb (by omega) (fun k hk => by injection hk; omega)
    have hBd : Below w.heap.size w (Wc.alloc (.cells #[.int .u8 ((n8 tag : Nat) : Int), .slice A1 body.length c1, .int .i64 iat, .int .i64 (ilen : Int)] 25)) := by rw [← HWc.out]; exact (hBw.alloc (by omega) _).alloc (by rw [alloc_size]; omega) _
    have hBe : Below w.heap.size w We := hBd.grown hgrow (by rw [alloc_size]; omega) (fun k hk => by have := (hvlt k hk).1; omega)
    have hBf := (hBe.setCell (p := ⟨w.heap.size + 1 + 1 + 1, 0, none⟩) (by show w.heap.size ≤ w.heap.size + 1 + 1 + 1; omega) (.slice (some ⟨g9, 0, none⟩) (pre.length + 1) cap9)).grown hgg (by have h1 := hgrow.size; rw [alloc_size] at h1; rw [World.size_setCell]; omega) (fun k hk => by injection hk; omega)
    refine ⟨_, _, hend, rfl, ⟨?_, ?_, ?_, ⟨_, bvf, ownf⟩, ?_, World.putObj_heap_same (Array.getElem?_eq_some_iff.1 hlf).1, hBf⟩, ?_, ?_⟩
    · exact ⟨(hall _ (by omega) (by omega) (.inl (by omega)) (by omega)).trans ((hB.block _ (by omega)).trans hJ.r0.is)⟩
    · exact ⟨(hall _ (by omega) (by omega) (.inl (by omega)) (by omega)).trans ((hB.block _ (by omega)).trans hJ.r1.is)⟩
    · exact ⟨(hall _ (by omega) (by omega) (.inl (by omega)) (by omega)).trans ((hB.block _ (by omega)).trans hJ.r2.is)⟩
    · exact (hall _ (by omega) (by omega) (.inl (by omega)) (by omega)).trans hdd
    · have h1 := hgrow.size
      rw [alloc_size] at h1
      rw [World.putObj_size, World.size_setCell]
      omega
    · intro k hk hkW
      exact hall k (by omega) (by omega) (by omega) hkW
  case post =>
    rintro e W2 ⟨⟨v, rfl⟩, ys, hys, hJ⟩
    obtain ⟨v5, bv, own⟩ := hJ.own
    obtain ⟨oe, hend⟩ : ∃ o, (Instr.endLoop (w.heap.size + 5 + 1)).run Tryd.prog W2 = .ok none (W2.putObj (w.heap.size + 5 + 1) o) := by
      have h := run_endLoop (P := Tryd.prog) hJ.loop (by rw [hrec]; intro h; cases h)
      rw [show rec.pending = none by rw [hrec]] at h
      exact ⟨_, h⟩
    refine ⟨none, _, hend, ?_⟩
    obtain ⟨W4, HW4⟩ : ∃ x, Hd (W2.putObj (w.heap.size + 5 + 1) oe = x) := ⟨_, ⟨rfl⟩⟩
    have hkk : ∀ k, k ≠ w.heap.size + 5 + 1 → W4.heap[k]? = W2.heap[k]? := fun k hk => by rw [← HW4.out]; exact World.putObj_heap_other hk
    have hgr : W2.grownBy W4 (some (w.heap.size + 5 + 1)) := by rw [← HW4.out]; exact grownBy_putObj' _ _ _
    rw [HW4.out]
    have k0 : Blk W4 w.heap.size 32 #[.slice none 0 0] := ⟨(hkk _ (by omega)).trans hJ.r0.is⟩
    have k1 : Blk W4 (w.heap.size + 1) 3 #[.int .i64 0] := ⟨(hkk _ (by omega)).trans hJ.r1.is⟩
    have k2 : Blk W4 (w.heap.size + 1 + 1) 26 #[.int .i64 0] := ⟨(hkk _ (by omega)).trans hJ.r2.is⟩
    have k3 : Blk W4 (w.heap.size + 1 + 1 + 1) 32 #[v5] := ⟨(hkk _ (by omega)).trans bv.is⟩
    have own4 : Der.OwnI W4 (w.heap.size + 7) v5 ys := own.moved hgr (by omega)
    have hD : W4.heap[w.heap.size + 5]? = some (.deferred (some [])) := (hkk _ (by omega)).trans hJ.dfr
    have hB4 : Below w.heap.size w W4 := hJ.below.grown hgr (by have := hJ.r0.lt; omega) (fun k hk => by injection hk; omega)
    have c0 := k0.cell 0
    have c1 := k1.cell 0
    have c2 := k2.cell 0
    have c3 := k3.cell 0
    have f0 := k0.frozen 0
    have f1 := k1.frozen 0
    have f2 := k2.frozen 0
    obtain ⟨A5, cp5, e5⟩ := own4.form
    subst e5
    clear HW4 hend hgr hkk hJ own bv b0 b1 b2 b3 b4 hBl hB0
    gi_wp2
    have j0 := ((k0.set_ 0 (.slice A5 ys.length cp5)).far (p := ⟨w.heap.size + 1, 0, none⟩) (by show w.heap.size ≠ w.heap.size + 1; omega) (.int .i64 0)).far (p := ⟨w.heap.size + 1 + 1, 0, none⟩) (by show w.heap.size ≠ w.heap.size + 1 + 1; omega) (.int .i64 0)
    have j1 := ((k1.far (p := ⟨w.heap.size, 0, none⟩) (by show w.heap.size + 1 ≠ w.heap.size; omega) (.slice A5 ys.length cp5)).set_ 0 (.int .i64 0)).far (p := ⟨w.heap.size + 1 + 1, 0, none⟩) (by show w.heap.size + 1 ≠ w.heap.size + 1 + 1; omega) (.int .i64 0)
    have j2 := ((k2.far (p := ⟨w.heap.size, 0, none⟩) (by show w.heap.size + 1 + 1 ≠ w.heap.size; omega) (.slice A5 ys.length cp5)).far (p := ⟨w.heap.size + 1, 0, none⟩) (by show w.heap.size + 1 + 1 ≠ w.heap.size + 1; omega) (.int .i64 0)).set_ 0 (.int .i64 0)
    have hD5 : (((W4.setCell ⟨w.heap.size, 0, none⟩ (.slice A5 ys.length cp5)).setCell ⟨w.heap.size + 1, 0, none⟩ (.int .i64 0)).setCell ⟨w.heap.size + 1 + 1, 0, none⟩ (.int .i64 0)).heap[w.heap.size + 5]? = some (.deferred (some [])) :=
      (Below.heap_setCell _ ⟨w.heap.size + 1 + 1, 0, none⟩ _ _ (by show w.heap.size + 5 ≠ w.heap.size + 1 + 1; omega)).trans ((Below.heap_setCell _ ⟨w.heap.size + 1, 0, none⟩ _ _ (by show w.heap.size + 5 ≠ w.heap.size + 1; omega)).trans ((Below.heap_setCell _ ⟨w.heap.size, 0, none⟩ _ _ (by show w.heap.size + 5 ≠ w.heap.size; omega)).trans hD))
    have own5 := ((own4.far (p := ⟨w.heap.size, 0, none⟩) (by show w.heap.size < _; omega) (.slice A5 ys.length cp5)).far (p := ⟨w.heap.size + 1, 0, none⟩) (by show w.heap.size + 1 < _; omega) (.int .i64 0)).far (p := ⟨w.heap.size + 1 + 1, 0, none⟩) (by show w.heap.size + 1 + 1 < _; omega) (.int .i64 0)
    have hB5 := ((hB4.setCell (p := ⟨w.heap.size, 0, none⟩) (Nat.le_refl _) (.slice A5 ys.length cp5)).setCell (p := ⟨w.heap.size + 1, 0, none⟩) (by show w.heap.size ≤ w.heap.size + 1; omega) (.int .i64 0)).setCell (p := ⟨w.heap.size + 1 + 1, 0, none⟩) (by show w.heap.size ≤ w.heap.size + 1 + 1; omega) (.int .i64 0)
    obtain ⟨W5, HW5⟩ : ∃ x, Hd (((W4.setCell ⟨w.heap.size, 0, none⟩ (.slice A5 ys.length cp5)).setCell ⟨w.heap.size + 1, 0, none⟩ (.int .i64 0)).setCell ⟨w.heap.size + 1 + 1, 0, none⟩ (.int .i64 0) = x) := ⟨_, ⟨rfl⟩⟩
    rw [HW5.out] at j0 j1 j2 hD5 own5 hB5 ⊢
    refine ⟨by simp, .inl ⟨_, _, rfl, run_takeDeferred hD5, ?_⟩⟩
    have hg6 : W5.grownBy (W5.putObj (w.heap.size + 5) (.deferred none)) (some (w.heap.size + 5)) := grownBy_putObj' _ _ _
    have own6 := own5.moved hg6 (by omega)
    have hB6 := hB5.grown hg6 (by have := j0.lt; omega) (fun k hk => by injection hk; omega)
    have i0 := (j0.grown hg6 (by intro e; injection e; omega)).cell 0
    have i1 := (j1.grown hg6 (by intro e; injection e; omega)).cell 0
    have i2 := (j2.grown hg6 (by intro e; injection e; omega)).cell 0
    exact ⟨_, Der.res3 rfl rfl rfl rfl (by kernel_rfl) (by kernel_rfl) (by kernel_rfl) i0 i1 i2, _, ys, rfl, hys, own6.low (by omega), hB6⟩
end Go.Proofs.YthkggeohdclffaaDoor
