/-
  The walks of the suites' small functions, the program's and the reference's.
-/
import Derived.Test.YtbcboldepghgpaaJa
import Derived.WalkSpells
import Derived.OwnWalk
set_option linter.unusedVariables false
set_option linter.unusedSimpArgs false
set_option maxRecDepth 100000
namespace Go.Proofs.Ytbcboldepghgpaa
open Go.RowKit
namespace Suite
def c128 : Array Value := #[.func (.func 54) #[] #[], .func (.func 56) #[] #[]]
def c256 : Array Value := #[.func (.func 58) #[] #[], .func (.func 59) #[] #[]]
def ccha : Array Value := #[.func (.func 60) #[] #[], .func (.func 61) #[] #[]]
def l128 : Value := .iface 108 (.agg c128)
def l256 : Value := .iface 110 (.agg c256)
def lcha : Value := .iface 110 (.agg ccha)
end Suite
theorem zero32 : (Try.prog.info? 68).bind (·.zero) = some (.agg (arr (List.replicate 32 0))) := by kernel_rfl
theorem ty32 : AggT Try.prog 68 32 := ⟨by kernel_rfl, by kernel_rfl⟩
set_option maxHeartbeats 2000000 in
set_option maxRecDepth 100000 in
theorem of_128 (w : World) : Calls Try.prog 46 #[.int .u16 4865] w fun e w' => e = .returned (.tuple #[Suite.l128, .int .i64 1, .int .u64 23726566]) ∧ w = w' := by
  go_enter Try.func46, Try.ntmps46
  go_wp2
  go_ret3
  exact ⟨rfl, rfl⟩
set_option maxHeartbeats 2000000 in
set_option maxRecDepth 100000 in
theorem of_256 (w : World) : Calls Try.prog 46 #[.int .u16 4866] w fun e w' => e = .returned (.tuple #[Suite.l256, .int .i64 2, .int .u64 23726566]) ∧ w = w' := by
  go_enter Try.func46, Try.ntmps46
  go_wp2
  go_ret3
  exact ⟨rfl, rfl⟩
set_option maxHeartbeats 2000000 in
set_option maxRecDepth 100000 in
theorem of_cha (w : World) : Calls Try.prog 46 #[.int .u16 4867] w fun e w' => e = .returned (.tuple #[Suite.lcha, .int .i64 1, .int .u64 4611686018427387904]) ∧ w = w' := by
  go_enter Try.func46, Try.ntmps46
  go_wp2
  go_ret3
  exact ⟨rfl, rfl⟩
set_option maxHeartbeats 2000000 in
set_option maxRecDepth 100000 in
theorem suiteOf_none (s : UInt16) (h1 : (s == 4865) = false) (h2 : (s == 4866) = false) (h3 : (s == 4867) = false) (w : World) : Calls Try.prog 46 #[.int .u16 ((n16 s : Nat) : Int)] w fun e w' => e = .returned (.tuple #[Value.nilIface, .int .i64 0, .int .u64 0]) ∧ w = w' := by
  go_enter Try.func46, Try.ntmps46
  go_wp2
  go_ret3
  exact ⟨rfl, rfl⟩
set_option maxHeartbeats 2000000 in
set_option maxRecDepth 100000 in
theorem size128_any (cs : Array Value) (w : World) : Calls Try.prog 135 #[.agg cs] w fun e w' => e = .returned (.int .i64 16) ∧ Below w.heap.size w w' := by
  have b1 : Blk ((w.alloc (.cells cs 108)).alloc (.cells (arr (List.replicate 16 0)) 104)) (w.heap.size + 1) 104 (arr (List.replicate 16 0)) := Blk.nu (by simp)
  have hB := ((Below.refl w.heap.size w).alloc (Nat.le_refl _) (.cells cs 108)).alloc (by simp) (.cells (arr (List.replicate 16 0)) 104)
  go_enter Try.func135, Try.ntmps135
  go_wp2_with (first | (refine wpl_alloc rfl 104 rfl _ zero16 ?_; simp only [World.size_alloc]) | (refine wpl_load_arr rfl 104 _ rfl _ rfl 16 ty16 (List.replicate 16 0) List.length_replicate b1.cells_arr ?_))
  go_ret
  exact ⟨rfl, hB⟩
theorem size128_at (v : Value) (w : World) : (method 290 108 v "drawbridge/suite.size").run Try.prog w = .ok (135, v) w := by kernel_rfl
set_option maxHeartbeats 2000000 in
set_option maxRecDepth 100000 in
theorem size256_any (cs : Array Value) (w : World) : Calls Try.prog 140 #[.agg cs] w fun e w' => e = .returned (.int .i64 32) ∧ Below w.heap.size w w' := by
  have b1 : Blk ((w.alloc (.cells cs 110)).alloc (.cells (arr (List.replicate 32 0)) 68)) (w.heap.size + 1) 68 (arr (List.replicate 32 0)) := Blk.nu (by simp)
  have hB := ((Below.refl w.heap.size w).alloc (Nat.le_refl _) (.cells cs 110)).alloc (by simp) (.cells (arr (List.replicate 32 0)) 68)
  go_enter Try.func140, Try.ntmps140
  go_wp2_with (first | (refine wpl_alloc rfl 68 rfl _ zero32 ?_; simp only [World.size_alloc]) | (refine wpl_load_arr rfl 68 _ rfl _ rfl 32 ty32 (List.replicate 32 0) List.length_replicate b1.cells_arr ?_))
  go_ret
  exact ⟨rfl, hB⟩
theorem size256_at (v : Value) (w : World) : (method 290 110 v "drawbridge/suite.size").run Try.prog w = .ok (140, v) w := by kernel_rfl
set_option maxHeartbeats 2000000 in
set_option maxRecDepth 100000 in
theorem Known_128 (w : World) : Calls Try.prog 52 #[.int .u16 4865] w fun e w' => e = .returned (.bool true) ∧ Below w.heap.size w w' := by
  go_enter Try.func52, Try.ntmps52
  go_wp2_with (first | (go_at_call 46; refine (of_128 _).mono ?_; rintro e w1 ⟨rfl, rfl⟩; unfold Suite.l128))
  go_ret
  exact ⟨rfl, Below.refl _ _⟩
set_option maxHeartbeats 2000000 in
set_option maxRecDepth 100000 in
theorem Known_256 (w : World) : Calls Try.prog 52 #[.int .u16 4866] w fun e w' => e = .returned (.bool true) ∧ Below w.heap.size w w' := by
  go_enter Try.func52, Try.ntmps52
  go_wp2_with (first | (go_at_call 46; refine (of_256 _).mono ?_; rintro e w1 ⟨rfl, rfl⟩; unfold Suite.l256))
  go_ret
  exact ⟨rfl, Below.refl _ _⟩
set_option maxHeartbeats 2000000 in
set_option maxRecDepth 100000 in
theorem Known_cha (w : World) : Calls Try.prog 52 #[.int .u16 4867] w fun e w' => e = .returned (.bool true) ∧ Below w.heap.size w w' := by
  go_enter Try.func52, Try.ntmps52
  go_wp2_with (first | (go_at_call 46; refine (of_cha _).mono ?_; rintro e w1 ⟨rfl, rfl⟩; unfold Suite.lcha))
  go_ret
  exact ⟨rfl, Below.refl _ _⟩
set_option maxHeartbeats 2000000 in
set_option maxRecDepth 100000 in
theorem Known_none (s : UInt16) (h1 : (s == 4865) = false) (h2 : (s == 4866) = false) (h3 : (s == 4867) = false) (w : World) : Calls Try.prog 52 #[.int .u16 ((n16 s : Nat) : Int)] w fun e w' => e = .returned (.bool false) ∧ Below w.heap.size w w' := by
  go_enter Try.func52, Try.ntmps52
  go_wp2_with (first | (go_at_call 46; refine (suiteOf_none s h1 h2 h3 _).mono ?_; rintro e w1 ⟨rfl, rfl⟩))
  go_ret
  exact ⟨rfl, Below.refl _ _⟩
set_option maxHeartbeats 2000000 in
set_option maxRecDepth 100000 in
theorem KeyLen_128 (w : World) : Calls Try.prog 26 #[.int .u16 4865] w fun e w' => e = .returned (.int .i64 16) ∧ Below w.heap.size w w' := by
  go_enter Try.func26, Try.ntmps26
  go_wp2_with (first | (go_at_call 46; refine (of_128 _).mono ?_; rintro e w1 ⟨rfl, rfl⟩; unfold Suite.l128) | rw [size128_at] | (go_at_call 135; refine (size128_any _ _).mono ?_; rintro e w2 ⟨rfl, hB⟩))
  go_ret
  exact ⟨rfl, hB⟩
set_option maxHeartbeats 2000000 in
set_option maxRecDepth 100000 in
theorem rKeyLen_128 (w : World) : Calls Try.prog 37 #[.int .u16 4865] w fun e w' => e = .returned (.int .i64 16) ∧ Below w.heap.size w w' := by
  go_enter Try.func37, Try.ntmps37
  go_wp2
  go_ret
  exact ⟨rfl, Below.refl _ _⟩
set_option maxHeartbeats 2000000 in
set_option maxRecDepth 100000 in
theorem KeyLen_256 (w : World) : Calls Try.prog 26 #[.int .u16 4866] w fun e w' => e = .returned (.int .i64 32) ∧ Below w.heap.size w w' := by
  go_enter Try.func26, Try.ntmps26
  go_wp2_with (first | (go_at_call 46; refine (of_256 _).mono ?_; rintro e w1 ⟨rfl, rfl⟩; unfold Suite.l256) | rw [size256_at] | (go_at_call 140; refine (size256_any _ _).mono ?_; rintro e w2 ⟨rfl, hB⟩))
  go_ret
  exact ⟨rfl, hB⟩
set_option maxHeartbeats 2000000 in
set_option maxRecDepth 100000 in
theorem rKeyLen_256 (w : World) : Calls Try.prog 37 #[.int .u16 4866] w fun e w' => e = .returned (.int .i64 32) ∧ Below w.heap.size w w' := by
  go_enter Try.func37, Try.ntmps37
  go_wp2
  go_ret
  exact ⟨rfl, Below.refl _ _⟩
set_option maxHeartbeats 2000000 in
set_option maxRecDepth 100000 in
theorem KeyLen_cha (w : World) : Calls Try.prog 26 #[.int .u16 4867] w fun e w' => e = .returned (.int .i64 32) ∧ Below w.heap.size w w' := by
  go_enter Try.func26, Try.ntmps26
  go_wp2_with (first | (go_at_call 46; refine (of_cha _).mono ?_; rintro e w1 ⟨rfl, rfl⟩; unfold Suite.lcha) | rw [size256_at] | (go_at_call 140; refine (size256_any _ _).mono ?_; rintro e w2 ⟨rfl, hB⟩))
  go_ret
  exact ⟨rfl, hB⟩
set_option maxHeartbeats 2000000 in
set_option maxRecDepth 100000 in
theorem rKeyLen_cha (w : World) : Calls Try.prog 37 #[.int .u16 4867] w fun e w' => e = .returned (.int .i64 32) ∧ Below w.heap.size w w' := by
  go_enter Try.func37, Try.ntmps37
  go_wp2
  go_ret
  exact ⟨rfl, Below.refl _ _⟩
set_option maxHeartbeats 2000000 in
set_option maxRecDepth 100000 in
theorem KeyLen_none (s : UInt16) (h1 : (s == 4865) = false) (h2 : (s == 4866) = false) (h3 : (s == 4867) = false) (w : World) : Calls Try.prog 26 #[.int .u16 ((n16 s : Nat) : Int)] w fun e w' => e = .returned (.int .i64 0) ∧ Below w.heap.size w w' := by
  go_enter Try.func26, Try.ntmps26
  go_wp2_with (first | (go_at_call 46; refine (suiteOf_none s h1 h2 h3 _).mono ?_; rintro e w1 ⟨rfl, rfl⟩))
  go_ret
  exact ⟨rfl, Below.refl _ _⟩
set_option maxHeartbeats 2000000 in
set_option maxRecDepth 100000 in
theorem rKeyLen_none (s : UInt16) (h1 : (s == 4865) = false) (h2 : (s == 4866) = false) (h3 : (s == 4867) = false) (w : World) : Calls Try.prog 37 #[.int .u16 ((n16 s : Nat) : Int)] w fun e w' => e = .returned (.int .i64 0) ∧ Below w.heap.size w w' := by
  go_enter Try.func37, Try.ntmps37
  go_wp2
  go_ret
  exact ⟨rfl, Below.refl _ _⟩
set_option maxHeartbeats 2000000 in
set_option maxRecDepth 100000 in
theorem Limit_128 (w : World) : Calls Try.prog 36 #[.int .u16 4865] w fun e w' => e = .returned (.int .u64 23726566) ∧ Below w.heap.size w w' := by
  go_enter Try.func36, Try.ntmps36
  go_wp2_with (first | (go_at_call 46; refine (of_128 _).mono ?_; rintro e w1 ⟨rfl, rfl⟩; unfold Suite.l128))
  go_ret
  exact ⟨rfl, Below.refl _ _⟩
set_option maxHeartbeats 2000000 in
set_option maxRecDepth 100000 in
theorem Limit_256 (w : World) : Calls Try.prog 36 #[.int .u16 4866] w fun e w' => e = .returned (.int .u64 23726566) ∧ Below w.heap.size w w' := by
  go_enter Try.func36, Try.ntmps36
  go_wp2_with (first | (go_at_call 46; refine (of_256 _).mono ?_; rintro e w1 ⟨rfl, rfl⟩; unfold Suite.l256))
  go_ret
  exact ⟨rfl, Below.refl _ _⟩
set_option maxHeartbeats 2000000 in
set_option maxRecDepth 100000 in
theorem Limit_cha (w : World) : Calls Try.prog 36 #[.int .u16 4867] w fun e w' => e = .returned (.int .u64 4611686018427387904) ∧ Below w.heap.size w w' := by
  go_enter Try.func36, Try.ntmps36
  go_wp2_with (first | (go_at_call 46; refine (of_cha _).mono ?_; rintro e w1 ⟨rfl, rfl⟩; unfold Suite.lcha))
  go_ret
  exact ⟨rfl, Below.refl _ _⟩
set_option maxHeartbeats 2000000 in
set_option maxRecDepth 100000 in
theorem Limit_none (s : UInt16) (h1 : (s == 4865) = false) (h2 : (s == 4866) = false) (h3 : (s == 4867) = false) (w : World) : Calls Try.prog 36 #[.int .u16 ((n16 s : Nat) : Int)] w fun e w' => e = .returned (.int .u64 0) ∧ Below w.heap.size w w' := by
  go_enter Try.func36, Try.ntmps36
  go_wp2_with (first | (go_at_call 46; refine (suiteOf_none s h1 h2 h3 _).mono ?_; rintro e w1 ⟨rfl, rfl⟩))
  go_ret
  exact ⟨rfl, Below.refl _ _⟩
end Go.Proofs.Ytbcboldepghgpaa
