/-
  The walks of the suites' small functions, the program's and the reference's.
-/
import Derived.Test.YtbnhjgknffcjeaaApp
import Derived.Test.YtbnhjgknffcjeaaMore
import Derived.WalkSpells
import Derived.OwnWalk
set_option linter.unusedVariables false
set_option linter.unusedSimpArgs false
namespace Go.Proofs.Ytbnhjgknffcjeaa
open Go.RowKit
namespace Suite
def c128 : Array Value := #[.func (.func 35) #[] #[], .func (.func 37) #[] #[]]
def c256 : Array Value := #[.func (.func 39) #[] #[], .func (.func 40) #[] #[]]
def ccha : Array Value := #[.func (.func 41) #[] #[], .func (.func 42) #[] #[]]
def l128 : Value := .iface 67 (.agg c128)
def l256 : Value := .iface 69 (.agg c256)
def lcha : Value := .iface 69 (.agg ccha)
end Suite
theorem zero32 : (Try.prog.info? 49).bind (·.zero) = some (.agg (arr (List.replicate 32 0))) := by kernel_rfl
theorem ty32 : AggT Try.prog 49 32 := ⟨by kernel_rfl, by kernel_rfl⟩
set_option maxHeartbeats 2000000 in
set_option maxRecDepth 100000 in
theorem of_128 (w : World) : Calls Try.prog 29 #[.int .u16 4865] w fun e w' => e = .returned (.tuple #[Suite.l128, .int .i64 1, .int .u64 23726566]) ∧ w = w' := by
  go_enter Try.func29, Try.ntmps29
  go_wp2
  go_ret3
  exact ⟨rfl, rfl⟩
set_option maxHeartbeats 2000000 in
set_option maxRecDepth 100000 in
theorem of_256 (w : World) : Calls Try.prog 29 #[.int .u16 4866] w fun e w' => e = .returned (.tuple #[Suite.l256, .int .i64 2, .int .u64 23726566]) ∧ w = w' := by
  go_enter Try.func29, Try.ntmps29
  go_wp2
  go_ret3
  exact ⟨rfl, rfl⟩
set_option maxHeartbeats 2000000 in
set_option maxRecDepth 100000 in
theorem of_cha (w : World) : Calls Try.prog 29 #[.int .u16 4867] w fun e w' => e = .returned (.tuple #[Suite.lcha, .int .i64 1, .int .u64 4611686018427387904]) ∧ w = w' := by
  go_enter Try.func29, Try.ntmps29
  go_wp2
  go_ret3
  exact ⟨rfl, rfl⟩
set_option maxHeartbeats 2000000 in
set_option maxRecDepth 100000 in
theorem of_none (s : UInt16) (h1 : (s == 4865) = false) (h2 : (s == 4866) = false) (h3 : (s == 4867) = false) (w : World) : Calls Try.prog 29 #[.int .u16 ((n16 s : Nat) : Int)] w fun e w' => e = .returned (.tuple #[Value.nilIface, .int .i64 0, .int .u64 0]) ∧ w = w' := by
  go_enter Try.func29, Try.ntmps29
  go_wp2
  go_ret3
  exact ⟨rfl, rfl⟩
set_option maxHeartbeats 2000000 in
set_option maxRecDepth 100000 in
theorem size128_any (cs : Array Value) (w : World) : Calls Try.prog 116 #[.agg cs] w fun e w' => e = .returned (.int .i64 16) ∧ Below w.heap.size w w' := by
  have b1 : Blk ((w.alloc (.cells cs 67)).alloc (.cells (arr (List.replicate 16 0)) 63)) (w.heap.size + 1) 63 (arr (List.replicate 16 0)) := Blk.nu (by simp)
  have hB := ((Below.refl w.heap.size w).alloc (Nat.le_refl _) (.cells cs 67)).alloc (by simp) (.cells (arr (List.replicate 16 0)) 63)
  go_enter Try.func116, Try.ntmps116
  go_wp2_with (first | (refine wpl_alloc rfl 63 rfl _ zero16 ?_; simp only [World.size_alloc]) | (refine wpl_load_arr rfl 63 _ rfl _ rfl 16 ty16 (List.replicate 16 0) List.length_replicate b1.cells_arr ?_))
  go_ret
  exact ⟨rfl, hB⟩
theorem size128_at (v : Value) (w : World) : (method 251 67 v "drawbridge/suite.size").run Try.prog w = .ok (116, v) w := by kernel_rfl
set_option maxHeartbeats 2000000 in
set_option maxRecDepth 100000 in
theorem size256_any (cs : Array Value) (w : World) : Calls Try.prog 121 #[.agg cs] w fun e w' => e = .returned (.int .i64 32) ∧ Below w.heap.size w w' := by
  have b1 : Blk ((w.alloc (.cells cs 69)).alloc (.cells (arr (List.replicate 32 0)) 49)) (w.heap.size + 1) 49 (arr (List.replicate 32 0)) := Blk.nu (by simp)
  have hB := ((Below.refl w.heap.size w).alloc (Nat.le_refl _) (.cells cs 69)).alloc (by simp) (.cells (arr (List.replicate 32 0)) 49)
  go_enter Try.func121, Try.ntmps121
  go_wp2_with (first | (refine wpl_alloc rfl 49 rfl _ zero32 ?_; simp only [World.size_alloc]) | (refine wpl_load_arr rfl 49 _ rfl _ rfl 32 ty32 (List.replicate 32 0) List.length_replicate b1.cells_arr ?_))
  go_ret
  exact ⟨rfl, hB⟩
theorem size256_at (v : Value) (w : World) : (method 251 69 v "drawbridge/suite.size").run Try.prog w = .ok (121, v) w := by kernel_rfl
set_option maxHeartbeats 2000000 in
set_option maxRecDepth 100000 in
theorem Known_128 (w : World) : Calls Try.prog 13 #[.int .u16 4865] w fun e w' => e = .returned (.bool true) ∧ Below w.heap.size w w' := by
  go_enter Try.func13, Try.ntmps13
  go_wp2_with (first | (go_at_call 29; refine (of_128 _).mono ?_; rintro e w1 ⟨rfl, rfl⟩; unfold Suite.l128))
  go_ret
  exact ⟨rfl, Below.refl _ _⟩
set_option maxHeartbeats 2000000 in
set_option maxRecDepth 100000 in
theorem rKnown_128 (w : World) : Calls Try.prog 14 #[.int .u16 4865] w fun e w' => e = .returned (.bool true) ∧ Below w.heap.size w w' := by
  go_enter Try.func14, Try.ntmps14
  go_wp2
  go_ret
  exact ⟨rfl, Below.refl _ _⟩
set_option maxHeartbeats 2000000 in
set_option maxRecDepth 100000 in
theorem Known_256 (w : World) : Calls Try.prog 13 #[.int .u16 4866] w fun e w' => e = .returned (.bool true) ∧ Below w.heap.size w w' := by
  go_enter Try.func13, Try.ntmps13
  go_wp2_with (first | (go_at_call 29; refine (of_256 _).mono ?_; rintro e w1 ⟨rfl, rfl⟩; unfold Suite.l256))
  go_ret
  exact ⟨rfl, Below.refl _ _⟩
set_option maxHeartbeats 2000000 in
set_option maxRecDepth 100000 in
theorem rKnown_256 (w : World) : Calls Try.prog 14 #[.int .u16 4866] w fun e w' => e = .returned (.bool true) ∧ Below w.heap.size w w' := by
  go_enter Try.func14, Try.ntmps14
  go_wp2
  go_ret
  exact ⟨rfl, Below.refl _ _⟩
set_option maxHeartbeats 2000000 in
set_option maxRecDepth 100000 in
theorem Known_cha (w : World) : Calls Try.prog 13 #[.int .u16 4867] w fun e w' => e = .returned (.bool true) ∧ Below w.heap.size w w' := by
  go_enter Try.func13, Try.ntmps13
  go_wp2_with (first | (go_at_call 29; refine (of_cha _).mono ?_; rintro e w1 ⟨rfl, rfl⟩; unfold Suite.lcha))
  go_ret
  exact ⟨rfl, Below.refl _ _⟩
set_option maxHeartbeats 2000000 in
set_option maxRecDepth 100000 in
theorem rKnown_cha (w : World) : Calls Try.prog 14 #[.int .u16 4867] w fun e w' => e = .returned (.bool true) ∧ Below w.heap.size w w' := by
  go_enter Try.func14, Try.ntmps14
  go_wp2
  go_ret
  exact ⟨rfl, Below.refl _ _⟩
set_option maxHeartbeats 2000000 in
set_option maxRecDepth 100000 in
theorem Known_none (s : UInt16) (h1 : (s == 4865) = false) (h2 : (s == 4866) = false) (h3 : (s == 4867) = false) (w : World) : Calls Try.prog 13 #[.int .u16 ((n16 s : Nat) : Int)] w fun e w' => e = .returned (.bool false) ∧ Below w.heap.size w w' := by
  go_enter Try.func13, Try.ntmps13
  go_wp2_with (first | (go_at_call 29; refine (of_none s h1 h2 h3 _).mono ?_; rintro e w1 ⟨rfl, rfl⟩))
  go_ret
  exact ⟨rfl, Below.refl _ _⟩
set_option maxHeartbeats 2000000 in
set_option maxRecDepth 100000 in
theorem rKnown_none (s : UInt16) (h1 : (s == 4865) = false) (h2 : (s == 4866) = false) (h3 : (s == 4867) = false) (w : World) : Calls Try.prog 14 #[.int .u16 ((n16 s : Nat) : Int)] w fun e w' => e = .returned (.bool false) ∧ Below w.heap.size w w' := by
  have e1 := ne_of_beq_false h1
  have e2 := ne_of_beq_false h2
  have e3 := ne_of_beq_false h3
  have hs := n16_lt s
  have f1 : n16 s ≠ 4865 := fun h => e1 (UInt16.toNat_inj.1 h)
  have f2 : n16 s ≠ 4866 := fun h => e2 (UInt16.toNat_inj.1 h)
  have f3 : n16 s ≠ 4867 := fun h => e3 (UInt16.toNat_inj.1 h)
  have g1 : 4865 ≤ s → 4865 ≤ n16 s := fun h => UInt16.le_iff_toNat_le.1 h
  have g2 : s ≤ 4867 → n16 s ≤ 4867 := fun h => UInt16.le_iff_toNat_le.1 h
  clear h1 h2 h3 e1 e2 e3
  by_cases hge : 4865 ≤ s
  · have hle : ¬ s ≤ 4867 := fun h => by have := g1 hge; have := g2 h; omega
    clear g1 g2 f1 f2 f3 hs
    go_enter Try.func14, Try.ntmps14
    go_wp2
    go_ret
    exact ⟨rfl, Below.refl _ _⟩
  · clear g1 g2 f1 f2 f3 hs
    go_enter Try.func14, Try.ntmps14
    go_wp2
    go_ret
    exact ⟨rfl, Below.refl _ _⟩
set_option maxHeartbeats 2000000 in
set_option maxRecDepth 100000 in
theorem Hash_128 (w : World) : Calls Try.prog 15 #[.int .u16 4865] w fun e w' => e = .returned (.int .i64 1) ∧ Below w.heap.size w w' := by
  go_enter Try.func15, Try.ntmps15
  go_wp2_with (first | (go_at_call 29; refine (of_128 _).mono ?_; rintro e w1 ⟨rfl, rfl⟩; unfold Suite.l128))
  go_ret
  exact ⟨rfl, Below.refl _ _⟩
set_option maxHeartbeats 2000000 in
set_option maxRecDepth 100000 in
theorem rHash_128 (w : World) : Calls Try.prog 16 #[.int .u16 4865] w fun e w' => e = .returned (.int .i64 1) ∧ Below w.heap.size w w' := by
  go_enter Try.func16, Try.ntmps16
  go_wp2
  go_ret
  exact ⟨rfl, Below.refl _ _⟩
set_option maxHeartbeats 2000000 in
set_option maxRecDepth 100000 in
theorem Hash_256 (w : World) : Calls Try.prog 15 #[.int .u16 4866] w fun e w' => e = .returned (.int .i64 2) ∧ Below w.heap.size w w' := by
  go_enter Try.func15, Try.ntmps15
  go_wp2_with (first | (go_at_call 29; refine (of_256 _).mono ?_; rintro e w1 ⟨rfl, rfl⟩; unfold Suite.l256))
  go_ret
  exact ⟨rfl, Below.refl _ _⟩
set_option maxHeartbeats 2000000 in
set_option maxRecDepth 100000 in
theorem rHash_256 (w : World) : Calls Try.prog 16 #[.int .u16 4866] w fun e w' => e = .returned (.int .i64 2) ∧ Below w.heap.size w w' := by
  go_enter Try.func16, Try.ntmps16
  go_wp2
  go_ret
  exact ⟨rfl, Below.refl _ _⟩
set_option maxHeartbeats 2000000 in
set_option maxRecDepth 100000 in
theorem Hash_cha (w : World) : Calls Try.prog 15 #[.int .u16 4867] w fun e w' => e = .returned (.int .i64 1) ∧ Below w.heap.size w w' := by
  go_enter Try.func15, Try.ntmps15
  go_wp2_with (first | (go_at_call 29; refine (of_cha _).mono ?_; rintro e w1 ⟨rfl, rfl⟩; unfold Suite.lcha))
  go_ret
  exact ⟨rfl, Below.refl _ _⟩
set_option maxHeartbeats 2000000 in
set_option maxRecDepth 100000 in
theorem rHash_cha (w : World) : Calls Try.prog 16 #[.int .u16 4867] w fun e w' => e = .returned (.int .i64 1) ∧ Below w.heap.size w w' := by
  go_enter Try.func16, Try.ntmps16
  go_wp2
  go_ret
  exact ⟨rfl, Below.refl _ _⟩
set_option maxHeartbeats 2000000 in
set_option maxRecDepth 100000 in
theorem Hash_none (s : UInt16) (h1 : (s == 4865) = false) (h2 : (s == 4866) = false) (h3 : (s == 4867) = false) (w : World) : Calls Try.prog 15 #[.int .u16 ((n16 s : Nat) : Int)] w fun e w' => e = .returned (.int .i64 0) ∧ Below w.heap.size w w' := by
  go_enter Try.func15, Try.ntmps15
  go_wp2_with (first | (go_at_call 29; refine (of_none s h1 h2 h3 _).mono ?_; rintro e w1 ⟨rfl, rfl⟩))
  go_ret
  exact ⟨rfl, Below.refl _ _⟩
set_option maxHeartbeats 2000000 in
set_option maxRecDepth 100000 in
theorem rHash_none (s : UInt16) (h1 : (s == 4865) = false) (h2 : (s == 4866) = false) (h3 : (s == 4867) = false) (w : World) : Calls Try.prog 16 #[.int .u16 ((n16 s : Nat) : Int)] w fun e w' => e = .returned (.int .i64 0) ∧ Below w.heap.size w w' := by
  go_enter Try.func16, Try.ntmps16
  go_wp2
  go_ret
  exact ⟨rfl, Below.refl _ _⟩
set_option maxHeartbeats 2000000 in
set_option maxRecDepth 100000 in
theorem KeyLen_128 (w : World) : Calls Try.prog 17 #[.int .u16 4865] w fun e w' => e = .returned (.int .i64 16) ∧ Below w.heap.size w w' := by
  go_enter Try.func17, Try.ntmps17
  go_wp2_with (first | (go_at_call 29; refine (of_128 _).mono ?_; rintro e w1 ⟨rfl, rfl⟩; unfold Suite.l128) | rw [size128_at] | (go_at_call 116; refine (size128_any _ _).mono ?_; rintro e w2 ⟨rfl, hB⟩))
  go_ret
  exact ⟨rfl, hB⟩
set_option maxHeartbeats 2000000 in
set_option maxRecDepth 100000 in
theorem rKeyLen_128 (w : World) : Calls Try.prog 18 #[.int .u16 4865] w fun e w' => e = .returned (.int .i64 16) ∧ Below w.heap.size w w' := by
  go_enter Try.func18, Try.ntmps18
  go_wp2
  go_ret
  exact ⟨rfl, Below.refl _ _⟩
set_option maxHeartbeats 2000000 in
set_option maxRecDepth 100000 in
theorem KeyLen_256 (w : World) : Calls Try.prog 17 #[.int .u16 4866] w fun e w' => e = .returned (.int .i64 32) ∧ Below w.heap.size w w' := by
  go_enter Try.func17, Try.ntmps17
  go_wp2_with (first | (go_at_call 29; refine (of_256 _).mono ?_; rintro e w1 ⟨rfl, rfl⟩; unfold Suite.l256) | rw [size256_at] | (go_at_call 121; refine (size256_any _ _).mono ?_; rintro e w2 ⟨rfl, hB⟩))
  go_ret
  exact ⟨rfl, hB⟩
set_option maxHeartbeats 2000000 in
set_option maxRecDepth 100000 in
theorem rKeyLen_256 (w : World) : Calls Try.prog 18 #[.int .u16 4866] w fun e w' => e = .returned (.int .i64 32) ∧ Below w.heap.size w w' := by
  go_enter Try.func18, Try.ntmps18
  go_wp2
  go_ret
  exact ⟨rfl, Below.refl _ _⟩
set_option maxHeartbeats 2000000 in
set_option maxRecDepth 100000 in
theorem KeyLen_cha (w : World) : Calls Try.prog 17 #[.int .u16 4867] w fun e w' => e = .returned (.int .i64 32) ∧ Below w.heap.size w w' := by
  go_enter Try.func17, Try.ntmps17
  go_wp2_with (first | (go_at_call 29; refine (of_cha _).mono ?_; rintro e w1 ⟨rfl, rfl⟩; unfold Suite.lcha) | rw [size256_at] | (go_at_call 121; refine (size256_any _ _).mono ?_; rintro e w2 ⟨rfl, hB⟩))
  go_ret
  exact ⟨rfl, hB⟩
set_option maxHeartbeats 2000000 in
set_option maxRecDepth 100000 in
theorem rKeyLen_cha (w : World) : Calls Try.prog 18 #[.int .u16 4867] w fun e w' => e = .returned (.int .i64 32) ∧ Below w.heap.size w w' := by
  go_enter Try.func18, Try.ntmps18
  go_wp2
  go_ret
  exact ⟨rfl, Below.refl _ _⟩
set_option maxHeartbeats 2000000 in
set_option maxRecDepth 100000 in
theorem KeyLen_none (s : UInt16) (h1 : (s == 4865) = false) (h2 : (s == 4866) = false) (h3 : (s == 4867) = false) (w : World) : Calls Try.prog 17 #[.int .u16 ((n16 s : Nat) : Int)] w fun e w' => e = .returned (.int .i64 0) ∧ Below w.heap.size w w' := by
  go_enter Try.func17, Try.ntmps17
  go_wp2_with (first | (go_at_call 29; refine (of_none s h1 h2 h3 _).mono ?_; rintro e w1 ⟨rfl, rfl⟩))
  go_ret
  exact ⟨rfl, Below.refl _ _⟩
set_option maxHeartbeats 2000000 in
set_option maxRecDepth 100000 in
theorem rKeyLen_none (s : UInt16) (h1 : (s == 4865) = false) (h2 : (s == 4866) = false) (h3 : (s == 4867) = false) (w : World) : Calls Try.prog 18 #[.int .u16 ((n16 s : Nat) : Int)] w fun e w' => e = .returned (.int .i64 0) ∧ Below w.heap.size w w' := by
  go_enter Try.func18, Try.ntmps18
  go_wp2
  go_ret
  exact ⟨rfl, Below.refl _ _⟩
set_option maxHeartbeats 2000000 in
set_option maxRecDepth 100000 in
theorem Limit_128 (w : World) : Calls Try.prog 19 #[.int .u16 4865] w fun e w' => e = .returned (.int .u64 23726566) ∧ Below w.heap.size w w' := by
  go_enter Try.func19, Try.ntmps19
  go_wp2_with (first | (go_at_call 29; refine (of_128 _).mono ?_; rintro e w1 ⟨rfl, rfl⟩; unfold Suite.l128))
  go_ret
  exact ⟨rfl, Below.refl _ _⟩
set_option maxHeartbeats 2000000 in
set_option maxRecDepth 100000 in
theorem rLimit_128 (w : World) : Calls Try.prog 20 #[.int .u16 4865] w fun e w' => e = .returned (.int .u64 23726566) ∧ Below w.heap.size w w' := by
  go_enter Try.func20, Try.ntmps20
  go_wp2
  go_ret
  exact ⟨rfl, Below.refl _ _⟩
set_option maxHeartbeats 2000000 in
set_option maxRecDepth 100000 in
theorem Limit_256 (w : World) : Calls Try.prog 19 #[.int .u16 4866] w fun e w' => e = .returned (.int .u64 23726566) ∧ Below w.heap.size w w' := by
  go_enter Try.func19, Try.ntmps19
  go_wp2_with (first | (go_at_call 29; refine (of_256 _).mono ?_; rintro e w1 ⟨rfl, rfl⟩; unfold Suite.l256))
  go_ret
  exact ⟨rfl, Below.refl _ _⟩
set_option maxHeartbeats 2000000 in
set_option maxRecDepth 100000 in
theorem rLimit_256 (w : World) : Calls Try.prog 20 #[.int .u16 4866] w fun e w' => e = .returned (.int .u64 23726566) ∧ Below w.heap.size w w' := by
  go_enter Try.func20, Try.ntmps20
  go_wp2
  go_ret
  exact ⟨rfl, Below.refl _ _⟩
set_option maxHeartbeats 2000000 in
set_option maxRecDepth 100000 in
theorem Limit_cha (w : World) : Calls Try.prog 19 #[.int .u16 4867] w fun e w' => e = .returned (.int .u64 4611686018427387904) ∧ Below w.heap.size w w' := by
  go_enter Try.func19, Try.ntmps19
  go_wp2_with (first | (go_at_call 29; refine (of_cha _).mono ?_; rintro e w1 ⟨rfl, rfl⟩; unfold Suite.lcha))
  go_ret
  exact ⟨rfl, Below.refl _ _⟩
set_option maxHeartbeats 2000000 in
set_option maxRecDepth 100000 in
theorem rLimit_cha (w : World) : Calls Try.prog 20 #[.int .u16 4867] w fun e w' => e = .returned (.int .u64 4611686018427387904) ∧ Below w.heap.size w w' := by
  go_enter Try.func20, Try.ntmps20
  go_wp2
  go_ret
  exact ⟨rfl, Below.refl _ _⟩
set_option maxHeartbeats 2000000 in
set_option maxRecDepth 100000 in
theorem Limit_none (s : UInt16) (h1 : (s == 4865) = false) (h2 : (s == 4866) = false) (h3 : (s == 4867) = false) (w : World) : Calls Try.prog 19 #[.int .u16 ((n16 s : Nat) : Int)] w fun e w' => e = .returned (.int .u64 0) ∧ Below w.heap.size w w' := by
  go_enter Try.func19, Try.ntmps19
  go_wp2_with (first | (go_at_call 29; refine (of_none s h1 h2 h3 _).mono ?_; rintro e w1 ⟨rfl, rfl⟩))
  go_ret
  exact ⟨rfl, Below.refl _ _⟩
set_option maxHeartbeats 2000000 in
set_option maxRecDepth 100000 in
theorem rLimit_none (s : UInt16) (h1 : (s == 4865) = false) (h2 : (s == 4866) = false) (h3 : (s == 4867) = false) (w : World) : Calls Try.prog 20 #[.int .u16 ((n16 s : Nat) : Int)] w fun e w' => e = .returned (.int .u64 0) ∧ Below w.heap.size w w' := by
  go_enter Try.func20, Try.ntmps20
  go_wp2
  go_ret
  exact ⟨rfl, Below.refl _ _⟩
end Go.Proofs.Ytbnhjgknffcjeaa
