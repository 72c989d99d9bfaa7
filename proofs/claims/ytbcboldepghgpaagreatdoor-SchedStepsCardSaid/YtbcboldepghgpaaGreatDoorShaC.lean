/-
  The walks of a block's words, a word's bytes, and the sizes.
-/
import Derived.Test.YtbcboldepghgpaaGreatDoorShaB
import Derived.Laws.MakeOwn
set_option linter.unusedVariables false
set_option linter.unusedSimpArgs false
set_option maxRecDepth 100000
namespace Go.Proofs.YtbcboldepghgpaaGreatDoor
open Go.RowKit
/-- How many places a slice value has. -/
def lenOf3 : Value → Nat
  | .slice _ n _ => n
  | _ => 0
set_option maxHeartbeats 4000000 in
set_option maxRecDepth 100000 in
theorem words32_any (A : Option Addr) (c : Nat) (b : List UInt8) (w : World) (hr : ReadsB w w.heap.size A 64 b) (hc : 64 ≤ c) :
    Calls Tryz.prog 66 #[.slice A 64 c, .int .i64 4, .int .i64 64] w fun e w' => ∃ v, e = .returned v ∧ OwnW32 w' w.heap.size v (Sha32.words b) ∧ Below w.heap.size w w' := by
  have Hbl := hd hr.len
  obtain ⟨i0, hi0, hz0, hz1, hz2⟩ := info_parts u32_info
  have hmk : ∀ u : World, (Instr.makeSlice 87 (.int .i64 0) (.int .i64 64)).run Tryz.prog u = .ok (.slice (some ⟨u.heap.size, 0, none⟩) 0 64) (u.alloc (.cells (madeCells #[.int .u32 0] 64) 66)) := fun u => by
    have h := run_make (P := Tryz.prog) (w := u) 87 66 i0 _ Tryz.underlying87 hi0 hz0 .i64 .i64 0 64 (by omega) (by omega) (by rw [hz2]; omega) (by omega)
    rw [hz1] at h
    exact h
  have own0 : OwnW32 (w.alloc (.cells (madeCells #[.int .u32 0] 64) 66)) w.heap.size (.slice (some ⟨w.heap.size, 0, none⟩) 0 64) [] :=
    ⟨rfl, .inr ⟨w.heap.size, 64, _, rfl, Nat.le_refl _, heap_alloc_new _ _, Nat.zero_le _, by unfold maxLen; omega, by simp [madeCells], rfl⟩⟩
  have hBel0 := (Below.refl w.heap.size w).alloc (Nat.le_refl _) (.cells (madeCells #[.int .u32 0] 64) 66)
  go_enter Tryz.func66, Tryz.ntmps66
  go_wp2_with (rw [hmk])
  clear hmk
  go_loopw [0, 7] (fun s v wr => ∃ (j : Nat) (A' : Option Addr) (n' c' : Nat), j ≤ 16 ∧ s = .slice A' n' c' ∧ ReadsB w w.heap.size A' n' (b.drop (4 * j)) ∧ n' = 64 - 4 * j ∧ n' ≤ c' ∧ OwnW32 wr w.heap.size v (Sha32.wordsTo b j) ∧ Below w.heap.size w wr) (fun s _ _ => lenOf3 s)
  case atStart => exact ⟨0, A, 64, c, by omega, rfl, by rw [Nat.mul_zero, List.drop_zero]; exact hr, by omega, hc, own0, hBel0⟩
  case round =>
    clear own0 hBel0
    obtain ⟨j, A', n', c', hj, rfl, hR, hn', hnc, own, hB⟩ := hrel
    have Hn := hd hn'
    clear hn'
    by_cases hlt : j < 16
    · have tk : (4 : Int) ≤ (n' : Int) := by have := Hn.out; omega
      have t4 : (4 : Int) ≤ (c' : Int) := by have := Hn.out; omega
      go_wp2
      go_loopw [8, 24] (fun x i wr => ∃ (k : Nat), k ≤ 4 ∧ i = .int .i64 (k : Int) ∧ x = .int .u32 ((n32 (Sha32.wordTo (b.drop (4 * j)) k) : Nat) : Int) ∧ OwnW32 wr w.heap.size u7 (Sha32.wordsTo b j) ∧ Below w.heap.size w wr) (fun _ i _ => 4 - (intOf i).toNat)
      case atStart => exact ⟨0, by omega, rfl, rfl, own, hB⟩
      case round =>
        clear own hB
        obtain ⟨k, hk, rfl, rfl, own, hB⟩ := hrel
        by_cases hlk : k < 4
        · have tk2 : (k : Int) < 4 := by omega
          obtain ⟨ad, hA, had, hcw⟩ := hR.cell (k := k) (by have := Hn.out; omega)
          subst hA
          have ck : wr.cell? (ad.add k) = some (.int .u8 (n8 (nth (b.drop (4 * j)) k))) := (hB.cell (by rw [block_of_add]; exact had)).trans hcw
          have Hx := hd (show Sha32.wordTo (b.drop (4 * j)) (k + 1) = Sha32.wordTo (b.drop (4 * j)) k <<< 8 ||| (nth (b.drop (4 * j)) k).toUInt32 from rfl)
          go_wp2
          go_roundw
          case rel => exact ⟨k + 1, by omega, by go_num, by rw [Hx.out], own, hB⟩
          case measure => simp [intOf]; omega
        · have ek : k = 4 := by omega
          subst ek
          have tk2 : ¬ ((4 : Nat) : Int) < 4 := by omega
          obtain ⟨x, Hx⟩ : ∃ x, Hd (Sha32.wordTo (b.drop (4 * j)) 4 = x) := ⟨_, ⟨rfl⟩⟩
          rw [Hx.out]
          have Hnx := hd (show Sha32.wordsTo b (j + 1) = Sha32.wordsTo b j ++ [x] by rw [Sha32.wordsTo, Hx.out])
          have own1 := own.alloc (.cells #[W32 x] 66)
          have hr1 := ReadsW32.one wr x
          have hB1 : w.heap.size ≤ (wr.alloc (.cells #[W32 x] 66)).heap.size := by have := hB.size; simp; omega
          have hBa := hB.alloc hB.size (.cells #[W32 x] 66)
          by_cases hcm : c' = 4
          · go_wp2_with (at_builtin; refine wpl_appendW32 rfl _ _ rfl w.heap.size u7 (Sha32.wordsTo b j) rfl own1 (wr.heap.size + 1) _ 1 1 [x] rfl hr1 (by rw [Sha32.wordsTo_len]; simp; omega) hB1 ?_; intro v3 w3 own3 gr3; have hB3 : Below w.heap.size w w3 := hBa.grown gr3 hB1 (fun k hk => (own.own.lt k hk).1))
            rw [← Hnx.out] at own3
            go_roundw
            case rel =>
              have hdr := hR.drop (k := 4) (by omega) hnc
              rw [if_pos hcm, List.drop_drop] at hdr
              exact ⟨j + 1, _, _, _, by omega, rfl, by rw [show 4 * (j + 1) = 4 * j + 4 by omega]; exact hdr, by have := Hn.out; omega, by omega, own3, hB3⟩
            case measure => simp [lenOf3]; omega
          · go_wp2_with (at_builtin; refine wpl_appendW32 rfl _ _ rfl w.heap.size u7 (Sha32.wordsTo b j) rfl own1 (wr.heap.size + 1) _ 1 1 [x] rfl hr1 (by rw [Sha32.wordsTo_len]; simp; omega) hB1 ?_; intro v3 w3 own3 gr3; have hB3 : Below w.heap.size w w3 := hBa.grown gr3 hB1 (fun k hk => (own.own.lt k hk).1))
            rw [← Hnx.out] at own3
            go_roundw
            case rel =>
              have hdr := hR.drop (k := 4) (by omega) hnc
              rw [if_neg hcm, List.drop_drop] at hdr
              exact ⟨j + 1, _, _, _, by omega, rfl, by rw [show 4 * (j + 1) = 4 * j + 4 by omega]; exact hdr, by have := Hn.out; omega, by omega, own3, hB3⟩
            case measure => simp [lenOf3]; omega
    · have ej : j = 16 := by omega
      subst ej
      have tk : ¬ (4 : Int) ≤ (n' : Int) := by have := Hn.out; omega
      go_wp2
      go_ret
      exact ⟨_, rfl, own, hB⟩
set_option maxHeartbeats 4000000 in
set_option maxRecDepth 100000 in
theorem words64_any (A : Option Addr) (c : Nat) (b : List UInt8) (w : World) (hr : ReadsB w w.heap.size A 128 b) (hc : 128 ≤ c) :
    Calls Tryz.prog 68 #[.slice A 128 c, .int .i64 8, .int .i64 80] w fun e w' => ∃ v, e = .returned v ∧ OwnW64 w' w.heap.size v (Sha64.words b) ∧ Below w.heap.size w w' := by
  have Hbl := hd hr.len
  obtain ⟨i0, hi0, hz0, hz1, hz2⟩ := info_parts u64_info
  have hmk : ∀ u : World, (Instr.makeSlice 95 (.int .i64 0) (.int .i64 80)).run Tryz.prog u = .ok (.slice (some ⟨u.heap.size, 0, none⟩) 0 80) (u.alloc (.cells (madeCells #[.int .u64 0] 80) 54)) := fun u => by
    have h := run_make (P := Tryz.prog) (w := u) 95 54 i0 _ Tryz.underlying95 hi0 hz0 .i64 .i64 0 80 (by omega) (by omega) (by rw [hz2]; omega) (by omega)
    rw [hz1] at h
    exact h
  have own0 : OwnW64 (w.alloc (.cells (madeCells #[.int .u64 0] 80) 54)) w.heap.size (.slice (some ⟨w.heap.size, 0, none⟩) 0 80) [] :=
    ⟨rfl, .inr ⟨w.heap.size, 80, _, rfl, Nat.le_refl _, heap_alloc_new _ _, Nat.zero_le _, by unfold maxLen; omega, by simp [madeCells], rfl⟩⟩
  have hBel0 := (Below.refl w.heap.size w).alloc (Nat.le_refl _) (.cells (madeCells #[.int .u64 0] 80) 54)
  go_enter Tryz.func68, Tryz.ntmps68
  go_wp2_with (rw [hmk])
  clear hmk
  go_loopw [0, 7] (fun s v wr => ∃ (j : Nat) (A' : Option Addr) (n' c' : Nat), j ≤ 16 ∧ s = .slice A' n' c' ∧ ReadsB w w.heap.size A' n' (b.drop (8 * j)) ∧ n' = 128 - 8 * j ∧ n' ≤ c' ∧ OwnW64 wr w.heap.size v (Sha64.wordsTo b j) ∧ Below w.heap.size w wr) (fun s _ _ => lenOf3 s)
  case atStart => exact ⟨0, A, 128, c, by omega, rfl, by rw [Nat.mul_zero, List.drop_zero]; exact hr, by omega, hc, own0, hBel0⟩
  case round =>
    clear own0 hBel0
    obtain ⟨j, A', n', c', hj, rfl, hR, hn', hnc, own, hB⟩ := hrel
    have Hn := hd hn'
    clear hn'
    by_cases hlt : j < 16
    · have tk : (8 : Int) ≤ (n' : Int) := by have := Hn.out; omega
      have t4 : (8 : Int) ≤ (c' : Int) := by have := Hn.out; omega
      go_wp2
      go_loopw [8, 24] (fun x i wr => ∃ (k : Nat), k ≤ 8 ∧ i = .int .i64 (k : Int) ∧ x = .int .u64 ((n64 (Sha64.wordTo (b.drop (8 * j)) k) : Nat) : Int) ∧ OwnW64 wr w.heap.size u7 (Sha64.wordsTo b j) ∧ Below w.heap.size w wr) (fun _ i _ => 8 - (intOf i).toNat)
      case atStart => exact ⟨0, by omega, rfl, rfl, own, hB⟩
      case round =>
        clear own hB
        obtain ⟨k, hk, rfl, rfl, own, hB⟩ := hrel
        by_cases hlk : k < 8
        · have tk2 : (k : Int) < 8 := by omega
          obtain ⟨ad, hA, had, hcw⟩ := hR.cell (k := k) (by have := Hn.out; omega)
          subst hA
          have ck : wr.cell? (ad.add k) = some (.int .u8 (n8 (nth (b.drop (8 * j)) k))) := (hB.cell (by rw [block_of_add]; exact had)).trans hcw
          have Hx := hd (show Sha64.wordTo (b.drop (8 * j)) (k + 1) = Sha64.wordTo (b.drop (8 * j)) k <<< 8 ||| (nth (b.drop (8 * j)) k).toUInt64 from rfl)
          go_wp2
          go_roundw
          case rel => exact ⟨k + 1, by omega, by go_num, by rw [Hx.out], own, hB⟩
          case measure => simp [intOf]; omega
        · have ek : k = 8 := by omega
          subst ek
          have tk2 : ¬ ((8 : Nat) : Int) < 8 := by omega
          obtain ⟨x, Hx⟩ : ∃ x, Hd (Sha64.wordTo (b.drop (8 * j)) 8 = x) := ⟨_, ⟨rfl⟩⟩
          rw [Hx.out]
          have Hnx := hd (show Sha64.wordsTo b (j + 1) = Sha64.wordsTo b j ++ [x] by rw [Sha64.wordsTo, Hx.out])
          have own1 := own.alloc (.cells #[W64 x] 54)
          have hr1 := ReadsW64.one wr x
          have hB1 : w.heap.size ≤ (wr.alloc (.cells #[W64 x] 54)).heap.size := by have := hB.size; simp; omega
          have hBa := hB.alloc hB.size (.cells #[W64 x] 54)
          by_cases hcm : c' = 8
          · go_wp2_with (at_builtin; refine wpl_appendW64 rfl _ _ rfl w.heap.size u7 (Sha64.wordsTo b j) rfl own1 (wr.heap.size + 1) _ 1 1 [x] rfl hr1 (by rw [Sha64.wordsTo_len]; simp; omega) hB1 ?_; intro v3 w3 own3 gr3; have hB3 : Below w.heap.size w w3 := hBa.grown gr3 hB1 (fun k hk => (own.own.lt k hk).1))
            rw [← Hnx.out] at own3
            go_roundw
            case rel =>
              have hdr := hR.drop (k := 8) (by omega) hnc
              rw [if_pos hcm, List.drop_drop] at hdr
              exact ⟨j + 1, _, _, _, by omega, rfl, by rw [show 8 * (j + 1) = 8 * j + 8 by omega]; exact hdr, by have := Hn.out; omega, by omega, own3, hB3⟩
            case measure => simp [lenOf3]; omega
          · go_wp2_with (at_builtin; refine wpl_appendW64 rfl _ _ rfl w.heap.size u7 (Sha64.wordsTo b j) rfl own1 (wr.heap.size + 1) _ 1 1 [x] rfl hr1 (by rw [Sha64.wordsTo_len]; simp; omega) hB1 ?_; intro v3 w3 own3 gr3; have hB3 : Below w.heap.size w w3 := hBa.grown gr3 hB1 (fun k hk => (own.own.lt k hk).1))
            rw [← Hnx.out] at own3
            go_roundw
            case rel =>
              have hdr := hR.drop (k := 8) (by omega) hnc
              rw [if_neg hcm, List.drop_drop] at hdr
              exact ⟨j + 1, _, _, _, by omega, rfl, by rw [show 8 * (j + 1) = 8 * j + 8 by omega]; exact hdr, by have := Hn.out; omega, by omega, own3, hB3⟩
            case measure => simp [lenOf3]; omega
    · have ej : j = 16 := by omega
      subst ej
      have tk : ¬ (8 : Int) ≤ (n' : Int) := by have := Hn.out; omega
      go_wp2
      go_ret
      exact ⟨_, rfl, own, hB⟩
namespace Sha
/-- A word's bytes, the highest first: the first k of n. -/
def spreadTo (x : UInt64) (n : Nat) : Nat → List UInt8
  | 0 => []
  | k + 1 => spreadTo x n k ++ [(shr64 x (8 * (n - 1 - k))).toUInt8]
theorem spreadTo_len (x : UInt64) (n : Nat) : ∀ k, (spreadTo x n k).length = k
  | 0 => rfl
  | k + 1 => by rw [spreadTo, List.length_append, spreadTo_len x n k]; rfl
end Sha
set_option maxHeartbeats 2000000 in
set_option maxRecDepth 100000 in
theorem spread_any (B : Nat) (v : Value) (l : List UInt8) (x : UInt64) (n : Nat) (hn : n ≤ 8) (w : World) (hown : OwnB w B v l) (hl : l.length ≤ 1099511627776) (hB : B ≤ w.heap.size) :
    Calls Tryz.prog 69 #[v, .int .u64 ((n64 x : Nat) : Int), .int .i64 (n : Int)] w fun e w' => ∃ v', e = .returned v' ∧ OwnB w' B v' (l ++ Sha.spreadTo x n n) ∧ Below B w w' := by
  have Hl := hd hl
  have v1 : IntKind.i64.wrap ((n : Int) - 1) = (n : Int) - 1 := IntWalk.i64_in _ (by omega)
  go_enter Tryz.func69, Tryz.ntmps69
  go_wp2
  go_loopw [0, 7] (fun v i wr => ∃ k : Nat, k ≤ n ∧ i = .int .i64 ((n : Int) - 1 - (k : Int)) ∧ OwnB wr B v (l ++ Sha.spreadTo x n k) ∧ Below B w wr) (fun _ i _ => (intOf i + 1).toNat)
  case atStart => exact ⟨0, by omega, by congr 1 <;> omega, by rw [Sha.spreadTo, List.append_nil]; exact hown, Below.refl _ _⟩
  case round =>
    obtain ⟨k, hk, rfl, own, hb⟩ := hrel
    obtain ⟨A3, c3, e3⟩ := own.slice
    obtain ⟨m, Hm⟩ : ∃ m, Hd ((l ++ Sha.spreadTo x n k).length = m) := ⟨_, ⟨rfl⟩⟩
    rw [Hm.out] at e3
    subst e3
    have Hmm := hd (show m = l.length + k by rw [← Hm.out, List.length_append, Sha.spreadTo_len])
    by_cases hlt : k < n
    · obtain ⟨j, Hj⟩ : ∃ j, Hd (n - 1 - k = j) := ⟨_, ⟨rfl⟩⟩
      have ej : (n : Int) - 1 - (k : Int) = (j : Int) := by have := Hj.out; omega
      rw [ej]
      have t0 : (0 : Int) ≤ (j : Int) := by omega
      obtain ⟨J, HJ⟩ : ∃ J, Hd (8 * j = J) := ⟨_, ⟨rfl⟩⟩
      have e8 : (8 : Int) * (j : Int) = (J : Int) := by have := HJ.out; omega
      have w1 : IntKind.i64.wrap (J : Int) = (J : Int) := IntWalk.i64_in _ (by have := HJ.out; have := Hj.out; omega)
      obtain ⟨y, Hy⟩ : ∃ y, Hd ((shr64 x J).toUInt8 = y) := ⟨_, ⟨rfl⟩⟩
      have Hnx := hd (show l ++ Sha.spreadTo x n (k + 1) = (l ++ Sha.spreadTo x n k) ++ [y] by rw [Sha.spreadTo, Hj.out, HJ.out, Hy.out, List.append_assoc])
      have hcl : (l ++ Sha.spreadTo x n k).length + [y].length ≤ 140737488355328 := by rw [Hm.out, Hmm.out]; have := Hl.out; simp; omega
      have own1 := own.alloc (.cells #[.int .u8 ((n8 y : Nat) : Int)] 5)
      have hr1 := ReadsB.one wr y
      have hBw : B ≤ wr.heap.size := Nat.le_trans hB hb.size
      have hB1 : B ≤ (wr.alloc (.cells #[.int .u8 ((n8 y : Nat) : Int)] 5)).heap.size := by simp; omega
      go_wp2_with (first | rw [Hy.out] | (at_builtin; refine wpl_appendB rfl _ _ rfl B (.slice A3 m c3) (l ++ Sha.spreadTo x n k) rfl own1 (wr.heap.size + 1) _ 1 1 [y] rfl hr1 hcl hB1 ?_; intro v3 w3 own3 gr3 at3; have hb3 : Below B w w3 := below_appended (hb.alloc hBw (.cells #[.int .u8 ((n8 y : Nat) : Int)] 5)) own1 gr3 (Nat.le_refl _) hB1))
      clear own1 hr1 hB1 gr3 at3 own
      rw [← Hnx.out] at own3
      go_roundw
      case rel => exact ⟨k + 1, by omega, by have := Hj.out; congr 1 <;> omega, own3, hb3⟩
      case measure => simp [intOf] <;> omega
    · have ek : k = n := by omega
      subst ek
      have ej : (k : Int) - 1 - (k : Int) = -1 := by omega
      rw [ej]
      go_wp2
      go_ret
      exact ⟨_, rfl, own, hb⟩
theorem size_1 (w : World) : Calls Tryz.prog 22 #[.int .i64 1] w fun e w' => e = .returned (.int .i64 32) ∧ w = w' := by
  go_enter Tryz.func22, Tryz.ntmps22
  go_wp2
  go_ret
  exact ⟨rfl, rfl⟩
theorem blockSize_1 (w : World) : Calls Tryz.prog 62 #[.int .i64 1] w fun e w' => e = .returned (.int .i64 64) ∧ w = w' := by
  go_enter Tryz.func62, Tryz.ntmps62
  go_wp2
  go_ret
  exact ⟨rfl, rfl⟩
theorem size_2 (w : World) : Calls Tryz.prog 22 #[.int .i64 2] w fun e w' => e = .returned (.int .i64 48) ∧ w = w' := by
  go_enter Tryz.func22, Tryz.ntmps22
  go_wp2
  go_ret
  exact ⟨rfl, rfl⟩
theorem blockSize_2 (w : World) : Calls Tryz.prog 62 #[.int .i64 2] w fun e w' => e = .returned (.int .i64 128) ∧ w = w' := by
  go_enter Tryz.func62, Tryz.ntmps62
  go_wp2
  go_ret
  exact ⟨rfl, rfl⟩
theorem size_3 (w : World) : Calls Tryz.prog 22 #[.int .i64 3] w fun e w' => e = .returned (.int .i64 64) ∧ w = w' := by
  go_enter Tryz.func22, Tryz.ntmps22
  go_wp2
  go_ret
  exact ⟨rfl, rfl⟩
theorem blockSize_3 (w : World) : Calls Tryz.prog 62 #[.int .i64 3] w fun e w' => e = .returned (.int .i64 128) ∧ w = w' := by
  go_enter Tryz.func62, Tryz.ntmps62
  go_wp2
  go_ret
  exact ⟨rfl, rfl⟩
theorem size_none (h : Int) (h1 : ¬ h = 1) (h2 : ¬ h = 2) (h3 : ¬ h = 3) (w : World) : Calls Tryz.prog 22 #[.int .i64 h] w fun e w' => e = .returned (.int .i64 0) ∧ w = w' := by
  go_enter Tryz.func22, Tryz.ntmps22
  go_wp2
  go_ret
  exact ⟨rfl, rfl⟩
theorem blockSize_none (h : Int) (h1 : ¬ h = 1) (h2 : ¬ h = 2) (h3 : ¬ h = 3) (w : World) : Calls Tryz.prog 62 #[.int .i64 h] w fun e w' => e = .returned (.int .i64 0) ∧ w = w' := by
  go_enter Tryz.func62, Tryz.ntmps62
  go_wp2
  go_ret
  exact ⟨rfl, rfl⟩
end Go.Proofs.YtbcboldepghgpaaGreatDoor
