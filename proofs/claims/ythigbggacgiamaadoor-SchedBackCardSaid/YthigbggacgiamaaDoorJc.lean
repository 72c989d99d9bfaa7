/-
  Sums of 64 bits with a carry, as the program reckons them.
  The walk of poly's plus.
  Products of 64 bits: the library's contract for math/bits.Mul64, laid at this program, on UInt64; two words of a key.
  Two words of a key as one number.
  The walk of a product added to a number of four digits.
-/
import Derived.Test.YthigbggacgiamaaDoorChaC
import Derived.Shelf.Spec.BitsCarry
import Derived.Shelf.Bits.Mul64
set_option linter.unusedVariables false
set_option linter.unusedSimpArgs false
set_option maxRecDepth 100000
namespace Go.Proofs.YthigbggacgiamaaDoor
open Go.RowKit
namespace Cha
/-- What a sum of three numbers carries. -/
def carry (x y c : UInt64) : UInt64 := UInt64.ofNat ((x.toNat + y.toNat + c.toNat) / 18446744073709551616)
theorem carry_nat (x y c : UInt64) (hc : c.toNat ≤ 1) : (carry x y c).toNat = (x.toNat + y.toNat + c.toNat) / 18446744073709551616 := by
  have h1 := x.toNat_lt
  have h2 := y.toNat_lt
  unfold carry
  rw [UInt64.toNat_ofNat', Nat.mod_eq_of_lt (by omega)]
theorem carry_le (x y c : UInt64) (hc : c.toNat ≤ 1) : (carry x y c).toNat ≤ 1 := by
  have h1 := x.toNat_lt
  have h2 := y.toNat_lt
  rw [carry_nat x y c hc]; omega
theorem sum_nat (x y c : UInt64) : (x + y + c).toNat = (x.toNat + y.toNat + c.toNat) % 18446744073709551616 := by
  rw [UInt64.toNat_add, UInt64.toNat_add]; omega
theorem add64 (x y c : UInt64) (hc : c.toNat ≤ 1) (w : World) : (callFunc 85 #[.int .u64 ((n64 x : Nat) : Int), .int .u64 ((n64 y : Nat) : Int), .int .u64 ((n64 c : Nat) : Int)]).run Tryd.prog w =
    .ok (.value (.tuple #[.int .u64 ((n64 (x + y + c) : Nat) : Int), .int .u64 ((n64 (carry x y c) : Nat) : Int)])) w := by
  have h1 := x.toNat_lt
  have h2 := y.toNat_lt
  have e1 : n64 (x + y + c) = (n64 x + n64 y + n64 c) % 18446744073709551616 := sum_nat x y c
  have e2 : n64 (carry x y c) = (n64 x + n64 y + n64 c) / 18446744073709551616 := carry_nat x y c hc
  have hx : n64 x < 18446744073709551616 := h1
  have hy : n64 y < 18446744073709551616 := h2
  have hcc : n64 c ≤ 1 := hc
  rw [run_callFunc_extern Tryd.func85 (by kernel_rfl) (by kernel_rfl) (by kernel_rfl) (e := add64Entry) (by kernel_rfl), run_add64 _ _ _ (by omega) (by omega) (by omega) (by omega), e1, e2]
  simp only [Result.andThen]
  congr 5 <;> omega
theorem add64_0 (x y : UInt64) (w : World) : (callFunc 85 #[.int .u64 ((n64 x : Nat) : Int), .int .u64 ((n64 y : Nat) : Int), .int .u64 0]).run Tryd.prog w =
    .ok (.value (.tuple #[.int .u64 ((n64 (x + y + 0) : Nat) : Int), .int .u64 ((n64 (carry x y 0) : Nat) : Int)])) w := add64 x y 0 (by decide) w
end Cha
end Go.Proofs.YthigbggacgiamaaDoor

namespace Go.Proofs.YthigbggacgiamaaDoor
open Go.RowKit
namespace Cha
/-- A number of three digits of 64 bits. -/
structure P3 where
  a : UInt64
  b : UInt64
  c : UInt64
def P3.cells (p : P3) : Array Value := #[.int .u64 ((n64 p.a : Nat) : Int), .int .u64 ((n64 p.b : Nat) : Int), .int .u64 ((n64 p.c : Nat) : Int)]
def P3.plus (p : P3) (lo hi top : UInt64) : P3 :=
  let c1 := carry p.a lo 0
  let c2 := carry p.b hi c1
  ⟨p.a + lo, p.b + hi + c1, p.c + (top + c2)⟩
theorem zero3 : (Tryd.prog.info? 150).bind (·.zero) = some (.agg #[.int .u64 0, .int .u64 0, .int .u64 0]) := by kernel_rfl
theorem agg3 : AggT Tryd.prog 150 3 := ⟨by kernel_rfl, by kernel_rfl⟩
theorem ret3 {w : World} {a : Act} {fn : Func} {p : Tmp} {R : Ending → World → Prop} (h : fn.results = #[.cell p 150]) (g : Nat) (hp : a.tmps.getD p undef = .pointer (some ⟨g, 0, none⟩)) (t : TypeId) (x : P3) (hb : Blk w g t x.cells) (hd : a.defers = []) (hR : R (.returned (.agg x.cells)) w) : bodyPost Tryd.prog fn R .ret a w := by
  refine bodyPost_ret (v := .agg x.cells) ?_ hd hR
  have hp' : a.tmps[p]?.getD undef = .pointer (some ⟨g, 0, none⟩) := by simpa using hp
  have := run_loadVar_cells (P := Tryd.prog) (w := w) agg3 ⟨g, 0, none⟩ [.int .u64 (n64 x.a), .int .u64 (n64 x.b), .int .u64 (n64 x.c)] rfl hb.cells.is
  simp [results, h, hp', asAddr, this, P3.cells]
end Cha
set_option maxHeartbeats 4000000 in
set_option maxRecDepth 100000 in
theorem Cha.plus_any (p : Cha.P3) (lo hi top : UInt64) (w : World) :
    Calls Tryd.prog 80 #[.agg p.cells, .int .u64 ((n64 lo : Nat) : Int), .int .u64 ((n64 hi : Nat) : Int), .int .u64 ((n64 top : Nat) : Int)] w fun e w' => e = .returned (.agg (p.plus lo hi top).cells) ∧ Below w.heap.size w w' := by
  obtain ⟨a, b, c⟩ := p
  obtain ⟨c1, Hc1⟩ : ∃ c, Hd (Cha.carry a lo 0 = c) := ⟨_, ⟨rfl⟩⟩
  have L1 : c1.toNat ≤ 1 := by rw [← Hc1.out]; exact Cha.carry_le _ _ _ (by decide)
  obtain ⟨c2, Hc2⟩ : ∃ c, Hd (Cha.carry b hi c1 = c) := ⟨_, ⟨rfl⟩⟩
  have Hp := hd (show Cha.P3.plus ⟨a, b, c⟩ lo hi top = ⟨a + lo, b + hi + c1, c + (top + c2)⟩ by unfold Cha.P3.plus; simp only [Hc1.out, Hc2.out])
  rw [Hp.out]
  unfold Cha.P3.cells
  go_enter Tryd.func80, Tryd.ntmps80
  go_wp2_with (first | (refine wpl_alloc rfl 150 rfl _ Cha.zero3 ?_) | (rw [Cha.add64_0]; rw [Hc1.out]) | (rw [Cha.add64 _ _ _ L1]; rw [Hc2.out]))
  exact Cha.ret3 rfl (w.heap.size + 1) rfl 150 ⟨a + lo, b + hi + c1, c + (top + c2)⟩ (Blk.nu (by simp)) rfl ⟨rfl, ((Below.refl _ _).alloc (Nat.le_refl _) _).alloc (by simp) _⟩
end Go.Proofs.YthigbggacgiamaaDoor

namespace Go.Proofs.YthigbggacgiamaaDoor
open Go.RowKit Go.Shelf
namespace Cha
def ren : Go.Shelf.Ren := ⟨fun | 264 => 87 | n => n, fun | 53 => 31 | 46 => 85 | n => n, fun | n => n⟩
theorem lays264 : Go.Proofs.Lays.n264 Tryd.prog ren := {
  mixed := by kernel_rfl
  f264 := Tryd.func87.trans (congrArg some (by kernel_rfl))
  t46 := Tryd.underlying85
  a46 := fun w => by kernel_rfl
  z46 := fun w => by kernel_rfl
  v46 := fun w => by kernel_rfl
  t53 := Tryd.underlying31
  a53 := fun w => by kernel_rfl
  z53 := fun w => by kernel_rfl
  v53 := fun w => by kernel_rfl }
/-- The high word of a product. -/
def mulHi (x y : UInt64) : UInt64 := UInt64.ofNat (x.toNat * y.toNat / 18446744073709551616)
theorem mulHi_nat (x y : UInt64) : (mulHi x y).toNat = x.toNat * y.toNat / 18446744073709551616 := by
  have h1 := x.toNat_lt
  have h2 := y.toNat_lt
  have h : x.toNat * y.toNat / 18446744073709551616 < 18446744073709551616 := by
    apply Nat.div_lt_of_lt_mul
    exact Nat.mul_lt_mul'' h1 h2
  unfold mulHi
  rw [UInt64.toNat_ofNat', Nat.mod_eq_of_lt (by omega)]
theorem mul64_any (x y : UInt64) (w : World) : Calls Tryd.prog 87 #[.int .u64 ((n64 x : Nat) : Int), .int .u64 ((n64 y : Nat) : Int)] w fun e w' =>
    e = .returned (.tuple #[.int .u64 ((n64 (mulHi x y) : Nat) : Int), .int .u64 ((n64 (x * y) : Nat) : Int)]) ∧ w' = w := by
  have h1 : n64 (mulHi x y) = n64 x * n64 y / 18446744073709551616 := mulHi_nat x y
  have h2 : n64 (x * y) = n64 x * n64 y % 18446744073709551616 := UInt64.toNat_mul x y
  rw [h1, h2]
  exact Any.bits_Mul64 lays264 (n64 x) (n64 y) x.toNat_lt y.toNat_lt w
end Cha
end Go.Proofs.YthigbggacgiamaaDoor

namespace Go.Proofs.YthigbggacgiamaaDoor
open Go.RowKit
namespace Cha
def two (k : List W) (i : Nat) : UInt64 := (at_ k i).toUInt64 ||| (at_ k (i + 1)).toUInt64 <<< 32
end Cha
set_option maxHeartbeats 4000000 in
set_option maxRecDepth 100000 in
theorem Cha.two_any (g z n i : Nat) (k : List UInt32) (hk : k.length = n) (hi : i + 1 < n) (hn : n ≤ 64) (w : World) (h0 : Blk w z 109 #[.slice (some ⟨g, 0, none⟩) n n]) (h1 : Blk w g 32 (Cha.row k)) :
    Calls Tryd.prog 79 #[.int .i64 (i : Int), .pointer (some ⟨z, 0, none⟩)] w fun e w' => e = .returned (.int .u64 ((n64 (Cha.two k i) : Nat) : Int)) ∧ Below w.heap.size w w' := by
  have cz := h0.cell 0
  simp only [List.getElem?_toArray, List.getElem?_cons_zero] at cz
  have t1 : (i : Int) < (n : Int) := by omega
  obtain ⟨j, Hj⟩ : ∃ j, Hd (i + 1 = j) := ⟨_, ⟨rfl⟩⟩
  have ej : (i : Int) + 1 = (j : Int) := by have := Hj.out; omega
  have wj : IntKind.i64.wrap (j : Int) = (j : Int) := IntWalk.i64_in _ (by have := Hj.out; omega)
  have t2 : (j : Int) < (n : Int) := by have := Hj.out; omega
  have c1 := Cha.Blk.cellW h1 i (by omega)
  have c2 := Cha.Blk.cellW h1 j (by have := Hj.out; omega)
  have H2 := hd (show Cha.two k i = (Cha.at_ k i).toUInt64 ||| (Cha.at_ k j).toUInt64 <<< 32 by unfold Cha.two; rw [Hj.out])
  rw [H2.out]
  go_enter Tryd.func79, Tryd.ntmps79
  go_wp2
  go_region
  all_goals go_wp2
  all_goals go_ret
  all_goals exact ⟨rfl, (Below.refl _ _).drew⟩
end Go.Proofs.YthigbggacgiamaaDoor

namespace Go.Proofs.YthigbggacgiamaaDoor
open Go.RowKit
namespace Cha
/-- A number of four digits of 64 bits. -/
structure P4 where
  a : UInt64
  b : UInt64
  c : UInt64
  d : UInt64
def P4.cells (p : P4) : Array Value := #[.int .u64 ((n64 p.a : Nat) : Int), .int .u64 ((n64 p.b : Nat) : Int), .int .u64 ((n64 p.c : Nat) : Int), .int .u64 ((n64 p.d : Nat) : Int)]
def P4.add2 (t : P4) (x y : UInt64) : P4 := ⟨t.a, t.b, t.c + x * y, t.d + mulHi x y + carry t.c (x * y) 0⟩
def P4.add1 (t : P4) (x y : UInt64) : P4 :=
  let c0 := carry t.b (x * y) 0
  let c1 := carry t.c (mulHi x y) c0
  ⟨t.a, t.b + x * y, t.c + mulHi x y + c0, t.d + c1⟩
def P4.add0 (t : P4) (x y : UInt64) : P4 :=
  let c0 := carry t.a (x * y) 0
  let c1 := carry t.b (mulHi x y) c0
  let c2 := carry t.c 0 c1
  ⟨t.a + x * y, t.b + mulHi x y + c0, t.c + c1, t.d + c2⟩
theorem carry_none (x : UInt64) : carry x 0 0 = 0 := by
  have h := x.toNat_lt
  apply UInt64.toNat_inj.1
  rw [carry_nat x 0 0 (by decide)]
  show (x.toNat + 0 + 0) / 18446744073709551616 = 0
  omega
theorem add64_z (x c : UInt64) (hc : c.toNat ≤ 1) (w : World) : (callFunc 85 #[.int .u64 ((n64 x : Nat) : Int), .int .u64 0, .int .u64 ((n64 c : Nat) : Int)]).run Tryd.prog w =
    .ok (.value (.tuple #[.int .u64 ((n64 (x + c) : Nat) : Int), .int .u64 ((n64 (carry x 0 c) : Nat) : Int)])) w := by
  have h := add64 x 0 c hc w
  rw [UInt64.add_zero] at h
  exact h
end Cha
set_option maxHeartbeats 4000000 in
set_option maxRecDepth 100000 in
theorem Cha.add2_any (g : Nat) (t : Cha.P4) (x y : UInt64) (w : World) (h0 : Blk w g 159 t.cells) :
    Calls Tryd.prog 86 #[.int .i64 2, .int .u64 ((n64 x : Nat) : Int), .int .u64 ((n64 y : Nat) : Int), .pointer (some ⟨g, 0, none⟩)] w fun e w' => e = .returned (.tuple #[]) ∧ Blk w' g 159 (t.add2 x y).cells ∧ w'.heap.size = w.heap.size ∧ w.grownBy w' (some g) := by
  obtain ⟨a, b, c, d⟩ := t
  obtain ⟨hi, Hhi⟩ : ∃ h, Hd (Cha.mulHi x y = h) := ⟨_, ⟨rfl⟩⟩
  obtain ⟨lo, Hlo⟩ : ∃ h, Hd (x * y = h) := ⟨_, ⟨rfl⟩⟩
  obtain ⟨c1, Hc1⟩ : ∃ h, Hd (Cha.carry c lo 0 = h) := ⟨_, ⟨rfl⟩⟩
  have L1 : c1.toNat ≤ 1 := by rw [← Hc1.out]; exact Cha.carry_le _ _ _ (by decide)
  have Hp := hd (show Cha.P4.add2 ⟨a, b, c, d⟩ x y = ⟨a, b, c + lo, d + hi + c1⟩ by unfold Cha.P4.add2; simp only [Hhi.out, Hlo.out, Hc1.out])
  rw [Hp.out]
  unfold Cha.P4.cells at h0 ⊢
  have k2 := h0.cell 2
  have k3 := h0.cell 3
  have f2 := h0.frozen 2
  have f3 := h0.frozen 3
  simp only [List.getElem?_toArray, List.getElem?_cons_zero, List.getElem?_cons_succ] at k2 k3
  go_enter Tryd.func86, Tryd.ntmps86
  go_wp2_with (first | (go_at_call 87; refine (Cha.mul64_any x y w).mono ?_; rintro e w' ⟨rfl, hw⟩; obtain rfl := hw.symm; rw [Hhi.out, Hlo.out]) | (rw [Cha.add64_0]; rw [Hc1.out]) | (rw [Cha.add64 _ _ _ L1]))
  refine wp_loop_rounds 1 ?_
  rw [rounds_succ]
  go_wp2
  go_end0
  have b1 : Blk ((w.setCell ⟨g, 2, none⟩ (.int .u64 ((n64 (c + lo) : Nat) : Int))).setCell ⟨g, 3, none⟩ (.int .u64 ((n64 (d + hi + c1) : Nat) : Int))) g 159 #[.int .u64 ((n64 a : Nat) : Int), .int .u64 ((n64 b : Nat) : Int), .int .u64 ((n64 (c + lo) : Nat) : Int), .int .u64 ((n64 (d + hi + c1) : Nat) : Int)] := (h0.set_ 2 _).set_ 3 _
  exact ⟨rfl, b1, by simp, grew_setCell (grew_setCell (World.grownBy.refl w (some g)) 2 _) 3 _⟩
set_option maxHeartbeats 4000000 in
set_option maxRecDepth 100000 in
theorem Cha.add1_any (g : Nat) (t : Cha.P4) (x y : UInt64) (w : World) (h0 : Blk w g 159 t.cells) :
    Calls Tryd.prog 86 #[.int .i64 1, .int .u64 ((n64 x : Nat) : Int), .int .u64 ((n64 y : Nat) : Int), .pointer (some ⟨g, 0, none⟩)] w fun e w' => e = .returned (.tuple #[]) ∧ Blk w' g 159 (t.add1 x y).cells ∧ w'.heap.size = w.heap.size ∧ w.grownBy w' (some g) := by
  obtain ⟨a, b, c, d⟩ := t
  obtain ⟨hi, Hhi⟩ : ∃ h, Hd (Cha.mulHi x y = h) := ⟨_, ⟨rfl⟩⟩
  obtain ⟨lo, Hlo⟩ : ∃ h, Hd (x * y = h) := ⟨_, ⟨rfl⟩⟩
  obtain ⟨c0, Hc0⟩ : ∃ h, Hd (Cha.carry b lo 0 = h) := ⟨_, ⟨rfl⟩⟩
  have L0 : c0.toNat ≤ 1 := by rw [← Hc0.out]; exact Cha.carry_le _ _ _ (by decide)
  obtain ⟨c1, Hc1⟩ : ∃ h, Hd (Cha.carry c hi c0 = h) := ⟨_, ⟨rfl⟩⟩
  have L1 : c1.toNat ≤ 1 := by rw [← Hc1.out]; exact Cha.carry_le _ _ _ L0
  have Hp := hd (show Cha.P4.add1 ⟨a, b, c, d⟩ x y = ⟨a, b + lo, c + hi + c0, d + c1⟩ by unfold Cha.P4.add1; simp only [Hhi.out, Hlo.out, Hc0.out, Hc1.out])
  rw [Hp.out]
  unfold Cha.P4.cells at h0 ⊢
  have k1 := h0.cell 1
  have k2 := h0.cell 2
  have k3 := h0.cell 3
  have f1 := h0.frozen 1
  have f2 := h0.frozen 2
  have f3 := h0.frozen 3
  simp only [List.getElem?_toArray, List.getElem?_cons_zero, List.getElem?_cons_succ] at k1 k2 k3
  go_enter Tryd.func86, Tryd.ntmps86
  go_wp2_with (first | (go_at_call 87; refine (Cha.mul64_any x y w).mono ?_; rintro e w' ⟨rfl, hw⟩; obtain rfl := hw.symm; rw [Hhi.out, Hlo.out]) | (rw [Cha.add64_0]; rw [Hc0.out]) | (rw [Cha.add64 _ _ _ L0]; rw [Hc1.out]))
  refine wp_loop_rounds 2 ?_
  rw [rounds_succ]
  go_wp2_with (rw [Cha.add64_z _ _ L1])
  · rw [rounds_succ]
    go_wp2
    go_end0
    have b1 := ((h0.set_ 1 (.int .u64 ((n64 (b + lo) : Nat) : Int))).set_ 2 (.int .u64 ((n64 (c + hi + c0) : Nat) : Int))).set_ 3 (.int .u64 ((n64 (d + c1) : Nat) : Int))
    exact ⟨rfl, b1, by simp, grew_setCell (grew_setCell (grew_setCell (World.grownBy.refl w (some g)) 1 _) 2 _) 3 _⟩
  · go_end0
    have e0 : c1 = 0 := by
      have h : ¬ 0 < c1.toNat := by assumption
      exact UInt64.toNat_inj.1 (by simpa using h)
    have b1 := (h0.set_ 1 (.int .u64 ((n64 (b + lo) : Nat) : Int))).set_ 2 (.int .u64 ((n64 (c + hi + c0) : Nat) : Int))
    exact ⟨rfl, by rw [e0, UInt64.add_zero]; exact b1, by simp, grew_setCell (grew_setCell (World.grownBy.refl w (some g)) 1 _) 2 _⟩
set_option maxHeartbeats 4000000 in
set_option maxRecDepth 100000 in
theorem Cha.add0_any (g : Nat) (t : Cha.P4) (x y : UInt64) (w : World) (h0 : Blk w g 159 t.cells) :
    Calls Tryd.prog 86 #[.int .i64 0, .int .u64 ((n64 x : Nat) : Int), .int .u64 ((n64 y : Nat) : Int), .pointer (some ⟨g, 0, none⟩)] w fun e w' => e = .returned (.tuple #[]) ∧ Blk w' g 159 (t.add0 x y).cells ∧ w'.heap.size = w.heap.size ∧ w.grownBy w' (some g) := by
  obtain ⟨a, b, c, d⟩ := t
  obtain ⟨hi, Hhi⟩ : ∃ h, Hd (Cha.mulHi x y = h) := ⟨_, ⟨rfl⟩⟩
  obtain ⟨lo, Hlo⟩ : ∃ h, Hd (x * y = h) := ⟨_, ⟨rfl⟩⟩
  obtain ⟨c0, Hc0⟩ : ∃ h, Hd (Cha.carry a lo 0 = h) := ⟨_, ⟨rfl⟩⟩
  have L0 : c0.toNat ≤ 1 := by rw [← Hc0.out]; exact Cha.carry_le _ _ _ (by decide)
  obtain ⟨c1, Hc1⟩ : ∃ h, Hd (Cha.carry b hi c0 = h) := ⟨_, ⟨rfl⟩⟩
  have L1 : c1.toNat ≤ 1 := by rw [← Hc1.out]; exact Cha.carry_le _ _ _ L0
  obtain ⟨c2, Hc2⟩ : ∃ h, Hd (Cha.carry c 0 c1 = h) := ⟨_, ⟨rfl⟩⟩
  have L2 : c2.toNat ≤ 1 := by rw [← Hc2.out]; exact Cha.carry_le _ _ _ L1
  have Hp := hd (show Cha.P4.add0 ⟨a, b, c, d⟩ x y = ⟨a + lo, b + hi + c0, c + c1, d + c2⟩ by unfold Cha.P4.add0; simp only [Hhi.out, Hlo.out, Hc0.out, Hc1.out, Hc2.out])
  rw [Hp.out]
  unfold Cha.P4.cells at h0 ⊢
  have k0 := h0.cell 0
  have k1 := h0.cell 1
  have k2 := h0.cell 2
  have k3 := h0.cell 3
  have f0 := h0.frozen 0
  have f1 := h0.frozen 1
  have f2 := h0.frozen 2
  have f3 := h0.frozen 3
  simp only [List.getElem?_toArray, List.getElem?_cons_zero, List.getElem?_cons_succ] at k0 k1 k2 k3
  have b1 := (h0.set_ 0 (.int .u64 ((n64 (a + lo) : Nat) : Int))).set_ 1 (.int .u64 ((n64 (b + hi + c0) : Nat) : Int))
  have gr := grew_setCell (grew_setCell (World.grownBy.refl w (some g)) 0 (.int .u64 ((n64 (a + lo) : Nat) : Int))) 1 (.int .u64 ((n64 (b + hi + c0) : Nat) : Int))
  go_enter Tryd.func86, Tryd.ntmps86
  go_wp2_with (first | (go_at_call 87; refine (Cha.mul64_any x y w).mono ?_; rintro e w' ⟨rfl, hw⟩; obtain rfl := hw.symm; rw [Hhi.out, Hlo.out]) | (rw [Cha.add64_0]; rw [Hc0.out]) | (rw [Cha.add64 _ _ _ L0]; rw [Hc1.out]))
  refine wp_loop_rounds 3 ?_
  rw [rounds_succ]
  go_wp2_with (rw [Cha.add64_z _ _ L1]; rw [Hc2.out])
  · rw [rounds_succ]
    go_wp2_with (rw [Cha.add64_z _ _ L2])
    · rw [rounds_succ]
      go_wp2
      go_end0
      exact ⟨rfl, (b1.set_ 2 (.int .u64 ((n64 (c + c1) : Nat) : Int))).set_ 3 (.int .u64 ((n64 (d + c2) : Nat) : Int)), by simp, grew_setCell (grew_setCell gr 2 _) 3 _⟩
    · go_end0
      have e0 : c2 = 0 := by
        have h : ¬ 0 < c2.toNat := by assumption
        exact UInt64.toNat_inj.1 (by simpa using h)
      exact ⟨rfl, by rw [e0, UInt64.add_zero]; exact b1.set_ 2 (.int .u64 ((n64 (c + c1) : Nat) : Int)), by simp, grew_setCell gr 2 _⟩
  · go_end0
    have e0 : c1 = 0 := by
      have h : ¬ 0 < c1.toNat := by assumption
      exact UInt64.toNat_inj.1 (by simpa using h)
    have e1 : c2 = 0 := by rw [← Hc2.out, e0, Cha.carry_none]
    exact ⟨rfl, by rw [e0, e1, UInt64.add_zero, UInt64.add_zero]; exact b1, by simp, gr⟩
end Go.Proofs.YthigbggacgiamaaDoor

