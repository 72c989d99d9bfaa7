/-
  A ticket's boxes; counted with what it leaves as it was.
-/
import Derived.Test.YthigbggacgiamaaDoorJk
import Derived.Test.YthigbggacgiamaaDoorJm
set_option linter.unusedVariables false
set_option linter.unusedSimpArgs false
set_option maxRecDepth 100000
namespace Go.Proofs.YthigbggacgiamaaDoor
open Go.RowKit
/-- How many, in a byte, and these. -/
theorem Tk.count_eq (l : List UInt8) : Sched.count l = Tk.count l := by
  unfold Sched.count Tk.count
  congr 1
/-- counted: what was there is as it was, but b's own block. -/
theorem Tk.counted_fr (B : Nat) (v : Value) (l : List UInt8) (A : Option Addr) (m c : Nat) (b : List UInt8) (w : World) (hown : OwnB w B v l) (hB : B ≤ w.heap.size) (hr : ReadsB w w.heap.size A m b) (hne : 0 < m → ∀ ad, A = some ad → v.ownBlock ≠ some ad.block) (hlen : l.length + 1 + m ≤ 140737488355328) :
    Calls Tryd.prog 13 #[v, .slice A m c] w fun e w' => ∃ v', e = .returned v' ∧ OwnB w' B v' (l ++ Tk.count b) ∧ Below B w w' ∧ w.grownBy w' v.ownBlock ∧ (v'.ownBlock = v.ownBlock ∨ ∃ g, v'.ownBlock = some g ∧ w.heap.size ≤ g) := by
  rw [← Tk.count_eq]
  obtain ⟨x, Hx⟩ : ∃ x, Hd (Sched.byteOf (m : Int) = x) := ⟨_, ⟨rfl⟩⟩
  have hx : (m : Int) % 256 = ((n8 x : Nat) : Int) := by rw [← Hx.out]; exact mod8 _
  have Hm := hd hr.len
  have own1 := hown.alloc (.cells #[.int .u8 ((n8 x : Nat) : Int)] 5)
  have hr1 := ReadsB.one w x
  have hra : ReadsB (w.alloc (.cells #[.int .u8 ((n8 x : Nat) : Int)] 5)) w.heap.size A m b := ⟨hr.len, hr.is.alloc (Nat.le_refl _) _⟩
  have hBa : B ≤ (w.alloc (.cells #[.int .u8 ((n8 x : Nat) : Int)] 5)).heap.size := by rw [alloc_size]; omega
  have hBw := (Below.refl B w).alloc hB (.cells #[.int .u8 ((n8 x : Nat) : Int)] 5)
  have hcl : l.length + [x].length ≤ 140737488355328 := by simp; omega
  have hcl2 : (l ++ [x]).length + b.length ≤ 140737488355328 := by rw [List.length_append, Hm.out]; simp; omega
  go_enter Tryd.func13, Tryd.ntmps13
  go_wp2_with (first | (at_builtin; refine wpl_appendB rfl _ _ rfl B v1 (l ++ [x]) rfl own2 w.heap.size A m c b rfl hrb hcl2 hB1 ?_; intro v2 w2 own3 gr2 at2) | (at_builtin; refine wpl_appendB rfl _ _ rfl B v l rfl own1 (w.heap.size + 1) _ 1 1 [x] rfl hr1 hcl hBa ?_; intro v1 w1 own2 gr1 at1; have hrb := reads_away hra gr1 (by rw [alloc_size]; omega) hne; have hB1 : B ≤ w1.heap.size := Nat.le_trans hBa gr1.size; have hBw1 := below_appended hBw own1 gr1 (Nat.le_refl _) hBa))
  go_ret
  have hs1 : w.heap.size + 1 ≤ w1.heap.size := by have := gr1.size; rw [alloc_size] at this; exact this
  have ha1 : v1.ownBlock = v.ownBlock ∨ v1.ownBlock = some (w.heap.size + 1) := by rw [alloc_size] at at1; exact at1
  refine ⟨_, rfl, ?_, below_appended hBw1 own2 gr2 (Nat.le_refl _) hB1, ?_, ?_⟩
  · rw [Sched.count, Hm.out, Hx.out, show l ++ x :: b = l ++ [x] ++ b by rw [List.append_assoc]; rfl]
    exact own3
  · refine ⟨gr2.os.trans gr1.os, gr2.tape.trans gr1.tape, gr2.output.trans gr1.output, by have := gr2.size; omega, fun i hi hne2 => ?_⟩
    refine (gr2.block i (by omega) ?_).trans ((gr1.block i (by rw [alloc_size]; omega) hne2).trans (Below.heap_alloc w _ i hi))
    rcases ha1 with e | e
    · rw [e]; exact hne2
    · rw [e]; intro h; injection h; omega
  · rcases at2 with e | e
    · rcases ha1 with e1 | e1
      · exact .inl (e.trans e1)
      · exact .inr ⟨_, e.trans e1, by omega⟩
    · exact .inr ⟨_, e, by omega⟩
/-- The three boxes of SealTicket. -/
structure Tk.Bx (w0 W : World) (N : Nat) (kn nonce : List UInt8) (ss : Array Value) : Prop where
  k : Blk W N 25 (arr kn)
  n : Blk W (N + 1) 27 (arr nonce)
  s : Blk W (N + 1 + 1) 34 ss
  below : Below N w0 W
theorem Tk.Bx.next {w0 W W' : World} {N : Nat} {kn nonce : List UInt8} {ss : Array Value} (h : Tk.Bx w0 W N kn nonce ss) (hb : Below (N + 1 + 1 + 1) W W') : Tk.Bx w0 W' N kn nonce ss :=
  ⟨h.k.below hb (by omega), h.n.below hb (by omega), h.s.below hb (by omega), h.below.trans (hb.mono (by omega))⟩
/-- A block of bytes is read from a place on. -/
theorem Tk.reads_at {W : World} {g : Nat} {t : TypeId} {l : List UInt8} (h : Blk W g t (arr l)) (off n : Nat) (hn : off + n ≤ l.length) : ReadsB W W.heap.size (some ⟨g, off, none⟩) n ((l.drop off).take n) := by
  have hl : ((l.drop off).take n).length = n := by rw [List.length_take, List.length_drop]; omega
  refine ⟨hl, by rw [List.length_map, hl, Nat.mul_one], fun _ => ⟨_, rfl, h.lt, fun j u hu => ?_⟩⟩
  have hc := h.cells_at off (((l.drop off).take n).map U8) (fun j v hv => by
    have hj : j < n := by
      rcases Nat.lt_or_ge j n with h | h
      · exact h
      · rw [List.getElem?_eq_none (by rw [List.length_map, hl]; exact h)] at hv; cases hv
    rw [List.getElem?_map, List.getElem?_take_of_lt hj, List.getElem?_drop] at hv
    simp only [arr, List.getElem?_toArray, List.getElem?_map]
    exact hv)
  exact hc.is j u hu
/-- An array is sliced, whole. -/
theorem Tk.slA {P : Program} {w : World} {o : Oper} {ρ : Operand → Value} {t e : TypeId} {x : Operand} {n : Nat} (ho : o.op = .slice t x none none none) (ht : P.underlying t = some (.array n e)) (hs : (P.info? e).map (·.size) = some 1) (a : Addr) (hx : ρ x = .pointer (some a)) : (execOp ρ o).run P w = .ok (.value (.slice (some a) n n)) w := by
  unfold execOp
  simp only [ho, hx]
  simp [go_sem, Instr.sliceAt, Instr.slice, Instr.sliceBounds, Instr.sliceBound, run_underlying ht, run_sizeOf hs, asIntOf, Addr.add_zero']
/-- A slice of three slices is made. -/
theorem Tk.build3 {w : World} {o : Oper} {ρ : Operand → Value} {x y z : Operand} (ho : o.op = .buildSlice 49 3 #[(0, x), (1, y), (2, z)]) (A B C : Option Addr) (a1 a2 b1 b2 c1 c2 : Nat) (hx : ρ x = .slice A a1 a2) (hy : ρ y = .slice B b1 b2) (hz : ρ z = .slice C c1 c2) :
    (execOp ρ o).run Tryd.prog w = .ok (.value (.slice (some ⟨w.heap.size, 0, none⟩) 3 3)) (w.alloc (.cells #[.slice A a1 a2, .slice B b1 b2, .slice C c1 c2] 30)) := by
  have hu : Tryd.prog.underlying 49 = some (.slice 30) := by kernel_rfl
  unfold execOp
  simp only [ho]
  simp [go_sem, Instr.buildSlice, hu, hx, hy, hz, run_underlying hu]
end Go.Proofs.YthigbggacgiamaaDoor
