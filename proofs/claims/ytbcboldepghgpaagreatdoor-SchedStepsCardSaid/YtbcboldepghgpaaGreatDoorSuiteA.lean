/-
  The walks of the suites' small functions, the program's and the reference's.
-/
import Derived.Test.YtbcboldepghgpaaGreatDoorApp
import Derived.Test.YtbcboldepghgpaaGreatDoorMore
import Derived.WalkSpells
import Derived.OwnWalk
set_option linter.unusedVariables false
set_option linter.unusedSimpArgs false
set_option maxRecDepth 100000
namespace Go.Proofs.YtbcboldepghgpaaGreatDoor
open Go.RowKit
namespace Suite
def c128 : Array Value := #[.func (.func 54) #[] #[], .func (.func 56) #[] #[]]
def c256 : Array Value := #[.func (.func 58) #[] #[], .func (.func 59) #[] #[]]
def ccha : Array Value := #[.func (.func 60) #[] #[], .func (.func 61) #[] #[]]
def l128 : Value := .iface 78 (.agg c128)
def l256 : Value := .iface 83 (.agg c256)
def lcha : Value := .iface 83 (.agg ccha)
end Suite
theorem zero32 : (Tryz.prog.info? 79).bind (·.zero) = some (.agg (arr (List.replicate 32 0))) := by kernel_rfl
theorem ty32 : AggT Tryz.prog 79 32 := ⟨by kernel_rfl, by kernel_rfl⟩
set_option maxHeartbeats 2000000 in
set_option maxRecDepth 100000 in
theorem of_128 (w : World) : Calls Tryz.prog 43 #[.int .u16 4865] w fun e w' => e = .returned (.tuple #[Suite.l128, .int .i64 1, .int .u64 23726566]) ∧ w = w' := by
  go_enter Tryz.func43, Tryz.ntmps43
  go_wp2
  go_ret3
  exact ⟨rfl, rfl⟩
set_option maxHeartbeats 2000000 in
set_option maxRecDepth 100000 in
theorem of_256 (w : World) : Calls Tryz.prog 43 #[.int .u16 4866] w fun e w' => e = .returned (.tuple #[Suite.l256, .int .i64 2, .int .u64 23726566]) ∧ w = w' := by
  go_enter Tryz.func43, Tryz.ntmps43
  go_wp2
  go_ret3
  exact ⟨rfl, rfl⟩
set_option maxHeartbeats 2000000 in
set_option maxRecDepth 100000 in
theorem of_cha (w : World) : Calls Tryz.prog 43 #[.int .u16 4867] w fun e w' => e = .returned (.tuple #[Suite.lcha, .int .i64 1, .int .u64 4611686018427387904]) ∧ w = w' := by
  go_enter Tryz.func43, Tryz.ntmps43
  go_wp2
  go_ret3
  exact ⟨rfl, rfl⟩
set_option maxHeartbeats 2000000 in
set_option maxRecDepth 100000 in
theorem suiteOf_none (s : UInt16) (h1 : (s == 4865) = false) (h2 : (s == 4866) = false) (h3 : (s == 4867) = false) (w : World) : Calls Tryz.prog 43 #[.int .u16 ((n16 s : Nat) : Int)] w fun e w' => e = .returned (.tuple #[Value.nilIface, .int .i64 0, .int .u64 0]) ∧ w = w' := by
  go_enter Tryz.func43, Tryz.ntmps43
  go_wp2
  go_ret3
  exact ⟨rfl, rfl⟩
set_option maxHeartbeats 2000000 in
set_option maxRecDepth 100000 in
theorem size128_any (cs : Array Value) (w : World) : Calls Tryz.prog 128 #[.agg cs] w fun e w' => e = .returned (.int .i64 16) ∧ Below w.heap.size w w' := by
  have b1 : Blk ((w.alloc (.cells cs 78)).alloc (.cells (arr (List.replicate 16 0)) 72)) (w.heap.size + 1) 72 (arr (List.replicate 16 0)) := Blk.nu (by simp)
  have hB := ((Below.refl w.heap.size w).alloc (Nat.le_refl _) (.cells cs 78)).alloc (by simp) (.cells (arr (List.replicate 16 0)) 72)
  go_enter Tryz.func128, Tryz.ntmps128
  go_wp2_with (first | (refine wpl_alloc rfl 72 rfl _ zero16 ?_; simp only [World.size_alloc]) | (refine wpl_load_arr rfl 72 _ rfl _ rfl 16 ty16 (List.replicate 16 0) List.length_replicate b1.cells_arr ?_))
  go_ret
  exact ⟨rfl, hB⟩
theorem size128_at (v : Value) (w : World) : (method 266 78 v "drawbridge/suite.size").run Tryz.prog w = .ok (128, v) w := by kernel_rfl
set_option maxHeartbeats 2000000 in
set_option maxRecDepth 100000 in
theorem size256_any (cs : Array Value) (w : World) : Calls Tryz.prog 131 #[.agg cs] w fun e w' => e = .returned (.int .i64 32) ∧ Below w.heap.size w w' := by
  have b1 : Blk ((w.alloc (.cells cs 83)).alloc (.cells (arr (List.replicate 32 0)) 79)) (w.heap.size + 1) 79 (arr (List.replicate 32 0)) := Blk.nu (by simp)
  have hB := ((Below.refl w.heap.size w).alloc (Nat.le_refl _) (.cells cs 83)).alloc (by simp) (.cells (arr (List.replicate 32 0)) 79)
  go_enter Tryz.func131, Tryz.ntmps131
  go_wp2_with (first | (refine wpl_alloc rfl 79 rfl _ zero32 ?_; simp only [World.size_alloc]) | (refine wpl_load_arr rfl 79 _ rfl _ rfl 32 ty32 (List.replicate 32 0) List.length_replicate b1.cells_arr ?_))
  go_ret
  exact ⟨rfl, hB⟩
theorem size256_at (v : Value) (w : World) : (method 266 83 v "drawbridge/suite.size").run Tryz.prog w = .ok (131, v) w := by kernel_rfl
set_option maxHeartbeats 2000000 in
set_option maxRecDepth 100000 in
theorem Hash_128 (w : World) : Calls Tryz.prog 29 #[.int .u16 4865] w fun e w' => e = .returned (.int .i64 1) ∧ Below w.heap.size w w' := by
  go_enter Tryz.func29, Tryz.ntmps29
  go_wp2_with (first | (go_at_call 43; refine (of_128 _).mono ?_; rintro e w1 ⟨rfl, rfl⟩; unfold Suite.l128))
  go_ret
  exact ⟨rfl, Below.refl _ _⟩
set_option maxHeartbeats 2000000 in
set_option maxRecDepth 100000 in
theorem rHash_128 (w : World) : Calls Tryz.prog 32 #[.int .u16 4865] w fun e w' => e = .returned (.int .i64 1) ∧ Below w.heap.size w w' := by
  go_enter Tryz.func32, Tryz.ntmps32
  go_wp2
  go_ret
  exact ⟨rfl, Below.refl _ _⟩
set_option maxHeartbeats 2000000 in
set_option maxRecDepth 100000 in
theorem Hash_256 (w : World) : Calls Tryz.prog 29 #[.int .u16 4866] w fun e w' => e = .returned (.int .i64 2) ∧ Below w.heap.size w w' := by
  go_enter Tryz.func29, Tryz.ntmps29
  go_wp2_with (first | (go_at_call 43; refine (of_256 _).mono ?_; rintro e w1 ⟨rfl, rfl⟩; unfold Suite.l256))
  go_ret
  exact ⟨rfl, Below.refl _ _⟩
set_option maxHeartbeats 2000000 in
set_option maxRecDepth 100000 in
theorem rHash_256 (w : World) : Calls Tryz.prog 32 #[.int .u16 4866] w fun e w' => e = .returned (.int .i64 2) ∧ Below w.heap.size w w' := by
  go_enter Tryz.func32, Tryz.ntmps32
  go_wp2
  go_ret
  exact ⟨rfl, Below.refl _ _⟩
set_option maxHeartbeats 2000000 in
set_option maxRecDepth 100000 in
theorem Hash_cha (w : World) : Calls Tryz.prog 29 #[.int .u16 4867] w fun e w' => e = .returned (.int .i64 1) ∧ Below w.heap.size w w' := by
  go_enter Tryz.func29, Tryz.ntmps29
  go_wp2_with (first | (go_at_call 43; refine (of_cha _).mono ?_; rintro e w1 ⟨rfl, rfl⟩; unfold Suite.lcha))
  go_ret
  exact ⟨rfl, Below.refl _ _⟩
set_option maxHeartbeats 2000000 in
set_option maxRecDepth 100000 in
theorem rHash_cha (w : World) : Calls Tryz.prog 32 #[.int .u16 4867] w fun e w' => e = .returned (.int .i64 1) ∧ Below w.heap.size w w' := by
  go_enter Tryz.func32, Tryz.ntmps32
  go_wp2
  go_ret
  exact ⟨rfl, Below.refl _ _⟩
set_option maxHeartbeats 2000000 in
set_option maxRecDepth 100000 in
theorem Hash_none (s : UInt16) (h1 : (s == 4865) = false) (h2 : (s == 4866) = false) (h3 : (s == 4867) = false) (w : World) : Calls Tryz.prog 29 #[.int .u16 ((n16 s : Nat) : Int)] w fun e w' => e = .returned (.int .i64 0) ∧ Below w.heap.size w w' := by
  go_enter Tryz.func29, Tryz.ntmps29
  go_wp2_with (first | (go_at_call 43; refine (suiteOf_none s h1 h2 h3 _).mono ?_; rintro e w1 ⟨rfl, rfl⟩))
  go_ret
  exact ⟨rfl, Below.refl _ _⟩
set_option maxHeartbeats 2000000 in
set_option maxRecDepth 100000 in
theorem rHash_none (s : UInt16) (h1 : (s == 4865) = false) (h2 : (s == 4866) = false) (h3 : (s == 4867) = false) (w : World) : Calls Tryz.prog 32 #[.int .u16 ((n16 s : Nat) : Int)] w fun e w' => e = .returned (.int .i64 0) ∧ Below w.heap.size w w' := by
  go_enter Tryz.func32, Tryz.ntmps32
  go_wp2
  go_ret
  exact ⟨rfl, Below.refl _ _⟩
set_option maxHeartbeats 2000000 in
set_option maxRecDepth 100000 in
theorem KeyLen_128 (w : World) : Calls Tryz.prog 31 #[.int .u16 4865] w fun e w' => e = .returned (.int .i64 16) ∧ Below w.heap.size w w' := by
  go_enter Tryz.func31, Tryz.ntmps31
  go_wp2_with (first | (go_at_call 43; refine (of_128 _).mono ?_; rintro e w1 ⟨rfl, rfl⟩; unfold Suite.l128) | rw [size128_at] | (go_at_call 128; refine (size128_any _ _).mono ?_; rintro e w2 ⟨rfl, hB⟩))
  go_ret
  exact ⟨rfl, hB⟩
set_option maxHeartbeats 2000000 in
set_option maxRecDepth 100000 in
theorem rKeyLen_128 (w : World) : Calls Tryz.prog 34 #[.int .u16 4865] w fun e w' => e = .returned (.int .i64 16) ∧ Below w.heap.size w w' := by
  go_enter Tryz.func34, Tryz.ntmps34
  go_wp2
  go_ret
  exact ⟨rfl, Below.refl _ _⟩
set_option maxHeartbeats 2000000 in
set_option maxRecDepth 100000 in
theorem KeyLen_256 (w : World) : Calls Tryz.prog 31 #[.int .u16 4866] w fun e w' => e = .returned (.int .i64 32) ∧ Below w.heap.size w w' := by
  go_enter Tryz.func31, Tryz.ntmps31
  go_wp2_with (first | (go_at_call 43; refine (of_256 _).mono ?_; rintro e w1 ⟨rfl, rfl⟩; unfold Suite.l256) | rw [size256_at] | (go_at_call 131; refine (size256_any _ _).mono ?_; rintro e w2 ⟨rfl, hB⟩))
  go_ret
  exact ⟨rfl, hB⟩
set_option maxHeartbeats 2000000 in
set_option maxRecDepth 100000 in
theorem rKeyLen_256 (w : World) : Calls Tryz.prog 34 #[.int .u16 4866] w fun e w' => e = .returned (.int .i64 32) ∧ Below w.heap.size w w' := by
  go_enter Tryz.func34, Tryz.ntmps34
  go_wp2
  go_ret
  exact ⟨rfl, Below.refl _ _⟩
set_option maxHeartbeats 2000000 in
set_option maxRecDepth 100000 in
theorem KeyLen_cha (w : World) : Calls Tryz.prog 31 #[.int .u16 4867] w fun e w' => e = .returned (.int .i64 32) ∧ Below w.heap.size w w' := by
  go_enter Tryz.func31, Tryz.ntmps31
  go_wp2_with (first | (go_at_call 43; refine (of_cha _).mono ?_; rintro e w1 ⟨rfl, rfl⟩; unfold Suite.lcha) | rw [size256_at] | (go_at_call 131; refine (size256_any _ _).mono ?_; rintro e w2 ⟨rfl, hB⟩))
  go_ret
  exact ⟨rfl, hB⟩
set_option maxHeartbeats 2000000 in
set_option maxRecDepth 100000 in
theorem rKeyLen_cha (w : World) : Calls Tryz.prog 34 #[.int .u16 4867] w fun e w' => e = .returned (.int .i64 32) ∧ Below w.heap.size w w' := by
  go_enter Tryz.func34, Tryz.ntmps34
  go_wp2
  go_ret
  exact ⟨rfl, Below.refl _ _⟩
set_option maxHeartbeats 2000000 in
set_option maxRecDepth 100000 in
theorem KeyLen_none (s : UInt16) (h1 : (s == 4865) = false) (h2 : (s == 4866) = false) (h3 : (s == 4867) = false) (w : World) : Calls Tryz.prog 31 #[.int .u16 ((n16 s : Nat) : Int)] w fun e w' => e = .returned (.int .i64 0) ∧ Below w.heap.size w w' := by
  go_enter Tryz.func31, Tryz.ntmps31
  go_wp2_with (first | (go_at_call 43; refine (suiteOf_none s h1 h2 h3 _).mono ?_; rintro e w1 ⟨rfl, rfl⟩))
  go_ret
  exact ⟨rfl, Below.refl _ _⟩
set_option maxHeartbeats 2000000 in
set_option maxRecDepth 100000 in
theorem rKeyLen_none (s : UInt16) (h1 : (s == 4865) = false) (h2 : (s == 4866) = false) (h3 : (s == 4867) = false) (w : World) : Calls Tryz.prog 34 #[.int .u16 ((n16 s : Nat) : Int)] w fun e w' => e = .returned (.int .i64 0) ∧ Below w.heap.size w w' := by
  go_enter Tryz.func34, Tryz.ntmps34
  go_wp2
  go_ret
  exact ⟨rfl, Below.refl _ _⟩
end Go.Proofs.YtbcboldepghgpaaGreatDoor
