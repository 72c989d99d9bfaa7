/-
  The walks of the suites' small functions, the program's and the reference's.
-/
import Derived.Test.YthigbggacgiamaaDoorJa
import Derived.WalkSpells
import Derived.OwnWalk
set_option linter.unusedVariables false
set_option linter.unusedSimpArgs false
set_option maxRecDepth 100000
namespace Go.Proofs.YthigbggacgiamaaDoor
open Go.RowKit
namespace Suite
def c128 : Array Value := #[.func (.func 33) #[] #[], .func (.func 35) #[] #[]]
def c256 : Array Value := #[.func (.func 37) #[] #[], .func (.func 38) #[] #[]]
def ccha : Array Value := #[.func (.func 39) #[] #[], .func (.func 40) #[] #[]]
def l128 : Value := .iface 91 (.agg c128)
def l256 : Value := .iface 95 (.agg c256)
def lcha : Value := .iface 95 (.agg ccha)
end Suite
theorem zero32 : (Tryd.prog.info? 23).bind (·.zero) = some (.agg (arr (List.replicate 32 0))) := by kernel_rfl
theorem ty32 : AggT Tryd.prog 23 32 := ⟨by kernel_rfl, by kernel_rfl⟩
set_option maxHeartbeats 2000000 in
set_option maxRecDepth 100000 in
theorem of_128 (w : World) : Calls Tryd.prog 31 #[.int .u16 4865] w fun e w' => e = .returned (.tuple #[Suite.l128, .int .i64 1, .int .u64 23726566]) ∧ w = w' := by
  go_enter Tryd.func31, Tryd.ntmps31
  go_wp2
  go_ret3
  exact ⟨rfl, rfl⟩
set_option maxHeartbeats 2000000 in
set_option maxRecDepth 100000 in
theorem of_256 (w : World) : Calls Tryd.prog 31 #[.int .u16 4866] w fun e w' => e = .returned (.tuple #[Suite.l256, .int .i64 2, .int .u64 23726566]) ∧ w = w' := by
  go_enter Tryd.func31, Tryd.ntmps31
  go_wp2
  go_ret3
  exact ⟨rfl, rfl⟩
set_option maxHeartbeats 2000000 in
set_option maxRecDepth 100000 in
theorem of_cha (w : World) : Calls Tryd.prog 31 #[.int .u16 4867] w fun e w' => e = .returned (.tuple #[Suite.lcha, .int .i64 1, .int .u64 4611686018427387904]) ∧ w = w' := by
  go_enter Tryd.func31, Tryd.ntmps31
  go_wp2
  go_ret3
  exact ⟨rfl, rfl⟩
set_option maxHeartbeats 2000000 in
set_option maxRecDepth 100000 in
theorem suiteOf_none (s : UInt16) (h1 : (s == 4865) = false) (h2 : (s == 4866) = false) (h3 : (s == 4867) = false) (w : World) : Calls Tryd.prog 31 #[.int .u16 ((n16 s : Nat) : Int)] w fun e w' => e = .returned (.tuple #[Value.nilIface, .int .i64 0, .int .u64 0]) ∧ w = w' := by
  go_enter Tryd.func31, Tryd.ntmps31
  go_wp2
  go_ret3
  exact ⟨rfl, rfl⟩
set_option maxHeartbeats 2000000 in
set_option maxRecDepth 100000 in
theorem size128_any (cs : Array Value) (w : World) : Calls Tryd.prog 107 #[.agg cs] w fun e w' => e = .returned (.int .i64 16) ∧ Below w.heap.size w w' := by
  have b1 : Blk ((w.alloc (.cells cs 91)).alloc (.cells (arr (List.replicate 16 0)) 87)) (w.heap.size + 1) 87 (arr (List.replicate 16 0)) := Blk.nu (by simp)
  have hB := ((Below.refl w.heap.size w).alloc (Nat.le_refl _) (.cells cs 91)).alloc (by simp) (.cells (arr (List.replicate 16 0)) 87)
  go_enter Tryd.func107, Tryd.ntmps107
  go_wp2_with (first | (refine wpl_alloc rfl 87 rfl _ zero16 ?_; simp only [World.size_alloc]) | (refine wpl_load_arr rfl 87 _ rfl _ rfl 16 ty16 (List.replicate 16 0) List.length_replicate b1.cells_arr ?_))
  go_ret
  exact ⟨rfl, hB⟩
theorem size128_at (v : Value) (w : World) : (method 279 91 v "drawbridge/suite.size").run Tryd.prog w = .ok (107, v) w := by kernel_rfl
set_option maxHeartbeats 2000000 in
set_option maxRecDepth 100000 in
theorem size256_any (cs : Array Value) (w : World) : Calls Tryd.prog 112 #[.agg cs] w fun e w' => e = .returned (.int .i64 32) ∧ Below w.heap.size w w' := by
  have b1 : Blk ((w.alloc (.cells cs 95)).alloc (.cells (arr (List.replicate 32 0)) 23)) (w.heap.size + 1) 23 (arr (List.replicate 32 0)) := Blk.nu (by simp)
  have hB := ((Below.refl w.heap.size w).alloc (Nat.le_refl _) (.cells cs 95)).alloc (by simp) (.cells (arr (List.replicate 32 0)) 23)
  go_enter Tryd.func112, Tryd.ntmps112
  go_wp2_with (first | (refine wpl_alloc rfl 23 rfl _ zero32 ?_; simp only [World.size_alloc]) | (refine wpl_load_arr rfl 23 _ rfl _ rfl 32 ty32 (List.replicate 32 0) List.length_replicate b1.cells_arr ?_))
  go_ret
  exact ⟨rfl, hB⟩
theorem size256_at (v : Value) (w : World) : (method 279 95 v "drawbridge/suite.size").run Tryd.prog w = .ok (112, v) w := by kernel_rfl
set_option maxHeartbeats 2000000 in
set_option maxRecDepth 100000 in
theorem Known_128 (w : World) : Calls Tryd.prog 23 #[.int .u16 4865] w fun e w' => e = .returned (.bool true) ∧ Below w.heap.size w w' := by
  go_enter Tryd.func23, Tryd.ntmps23
  go_wp2_with (first | (go_at_call 31; refine (of_128 _).mono ?_; rintro e w1 ⟨rfl, rfl⟩; unfold Suite.l128))
  go_ret
  exact ⟨rfl, Below.refl _ _⟩
set_option maxHeartbeats 2000000 in
set_option maxRecDepth 100000 in
theorem Known_256 (w : World) : Calls Tryd.prog 23 #[.int .u16 4866] w fun e w' => e = .returned (.bool true) ∧ Below w.heap.size w w' := by
  go_enter Tryd.func23, Tryd.ntmps23
  go_wp2_with (first | (go_at_call 31; refine (of_256 _).mono ?_; rintro e w1 ⟨rfl, rfl⟩; unfold Suite.l256))
  go_ret
  exact ⟨rfl, Below.refl _ _⟩
set_option maxHeartbeats 2000000 in
set_option maxRecDepth 100000 in
theorem Known_cha (w : World) : Calls Tryd.prog 23 #[.int .u16 4867] w fun e w' => e = .returned (.bool true) ∧ Below w.heap.size w w' := by
  go_enter Tryd.func23, Tryd.ntmps23
  go_wp2_with (first | (go_at_call 31; refine (of_cha _).mono ?_; rintro e w1 ⟨rfl, rfl⟩; unfold Suite.lcha))
  go_ret
  exact ⟨rfl, Below.refl _ _⟩
set_option maxHeartbeats 2000000 in
set_option maxRecDepth 100000 in
theorem Known_none (s : UInt16) (h1 : (s == 4865) = false) (h2 : (s == 4866) = false) (h3 : (s == 4867) = false) (w : World) : Calls Tryd.prog 23 #[.int .u16 ((n16 s : Nat) : Int)] w fun e w' => e = .returned (.bool false) ∧ Below w.heap.size w w' := by
  go_enter Tryd.func23, Tryd.ntmps23
  go_wp2_with (first | (go_at_call 31; refine (suiteOf_none s h1 h2 h3 _).mono ?_; rintro e w1 ⟨rfl, rfl⟩))
  go_ret
  exact ⟨rfl, Below.refl _ _⟩
set_option maxHeartbeats 2000000 in
set_option maxRecDepth 100000 in
theorem Hash_128 (w : World) : Calls Tryd.prog 24 #[.int .u16 4865] w fun e w' => e = .returned (.int .i64 1) ∧ Below w.heap.size w w' := by
  go_enter Tryd.func24, Tryd.ntmps24
  go_wp2_with (first | (go_at_call 31; refine (of_128 _).mono ?_; rintro e w1 ⟨rfl, rfl⟩; unfold Suite.l128))
  go_ret
  exact ⟨rfl, Below.refl _ _⟩
set_option maxHeartbeats 2000000 in
set_option maxRecDepth 100000 in
theorem rHash_128 (w : World) : Calls Tryd.prog 17 #[.int .u16 4865] w fun e w' => e = .returned (.int .i64 1) ∧ Below w.heap.size w w' := by
  go_enter Tryd.func17, Tryd.ntmps17
  go_wp2
  go_ret
  exact ⟨rfl, Below.refl _ _⟩
set_option maxHeartbeats 2000000 in
set_option maxRecDepth 100000 in
theorem Hash_256 (w : World) : Calls Tryd.prog 24 #[.int .u16 4866] w fun e w' => e = .returned (.int .i64 2) ∧ Below w.heap.size w w' := by
  go_enter Tryd.func24, Tryd.ntmps24
  go_wp2_with (first | (go_at_call 31; refine (of_256 _).mono ?_; rintro e w1 ⟨rfl, rfl⟩; unfold Suite.l256))
  go_ret
  exact ⟨rfl, Below.refl _ _⟩
set_option maxHeartbeats 2000000 in
set_option maxRecDepth 100000 in
theorem rHash_256 (w : World) : Calls Tryd.prog 17 #[.int .u16 4866] w fun e w' => e = .returned (.int .i64 2) ∧ Below w.heap.size w w' := by
  go_enter Tryd.func17, Tryd.ntmps17
  go_wp2
  go_ret
  exact ⟨rfl, Below.refl _ _⟩
set_option maxHeartbeats 2000000 in
set_option maxRecDepth 100000 in
theorem Hash_cha (w : World) : Calls Tryd.prog 24 #[.int .u16 4867] w fun e w' => e = .returned (.int .i64 1) ∧ Below w.heap.size w w' := by
  go_enter Tryd.func24, Tryd.ntmps24
  go_wp2_with (first | (go_at_call 31; refine (of_cha _).mono ?_; rintro e w1 ⟨rfl, rfl⟩; unfold Suite.lcha))
  go_ret
  exact ⟨rfl, Below.refl _ _⟩
set_option maxHeartbeats 2000000 in
set_option maxRecDepth 100000 in
theorem rHash_cha (w : World) : Calls Tryd.prog 17 #[.int .u16 4867] w fun e w' => e = .returned (.int .i64 1) ∧ Below w.heap.size w w' := by
  go_enter Tryd.func17, Tryd.ntmps17
  go_wp2
  go_ret
  exact ⟨rfl, Below.refl _ _⟩
set_option maxHeartbeats 2000000 in
set_option maxRecDepth 100000 in
theorem Hash_none (s : UInt16) (h1 : (s == 4865) = false) (h2 : (s == 4866) = false) (h3 : (s == 4867) = false) (w : World) : Calls Tryd.prog 24 #[.int .u16 ((n16 s : Nat) : Int)] w fun e w' => e = .returned (.int .i64 0) ∧ Below w.heap.size w w' := by
  go_enter Tryd.func24, Tryd.ntmps24
  go_wp2_with (first | (go_at_call 31; refine (suiteOf_none s h1 h2 h3 _).mono ?_; rintro e w1 ⟨rfl, rfl⟩))
  go_ret
  exact ⟨rfl, Below.refl _ _⟩
set_option maxHeartbeats 2000000 in
set_option maxRecDepth 100000 in
theorem rHash_none (s : UInt16) (h1 : (s == 4865) = false) (h2 : (s == 4866) = false) (h3 : (s == 4867) = false) (w : World) : Calls Tryd.prog 17 #[.int .u16 ((n16 s : Nat) : Int)] w fun e w' => e = .returned (.int .i64 0) ∧ Below w.heap.size w w' := by
  go_enter Tryd.func17, Tryd.ntmps17
  go_wp2
  go_ret
  exact ⟨rfl, Below.refl _ _⟩
end Go.Proofs.YthigbggacgiamaaDoor
