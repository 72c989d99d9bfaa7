/-
  The walks of chacha's words, and of a half of a quarter.
-/
import Derived.Test.YthigbggacgiamaaDoorJa
import Derived.Laws.MakeOwn
import Derived.WalkSpells
import Derived.BigQuiet
import Derived.BigRegion
import Derived.Deep.QuietTactic
set_option linter.unusedVariables false
set_option linter.unusedSimpArgs false
set_option maxRecDepth 100000
namespace Go.Proofs.YthigbggacgiamaaDoor
open Go.RowKit
namespace Cha
theorem u32_info : (Tryd.prog.info? 32).map (fun i => (i.zero, i.size, i.bytes)) = some (some (.int .u32 0), 1, 4) := by kernel_rfl
theorem Blk.cellW {w : World} {g : Nat} {t : TypeId} {l : List W} (h : Blk w g t (row l)) (i : Nat) (hi : i < l.length) : w.cell? ⟨g, i, none⟩ = some (.int .u32 ((n32 (at_ l i) : Nat) : Int)) := by rw [h.cell, row_get l i hi]; rfl
theorem Blk.setW {w : World} {g : Nat} {t : TypeId} {l : List W} (h : Blk w g t (row l)) (i : Nat) (x : W) : Blk (w.setCell ⟨g, i, none⟩ (.int .u32 ((n32 x : Nat) : Int))) g t (row (l.set i x)) := by
  have e := row_set l i x
  unfold V at e
  rw [← e]; exact h.set_ i _
end Cha
set_option maxHeartbeats 4000000 in
set_option maxRecDepth 100000 in
theorem Cha.words_any (A : Option Addr) (c n m : Nat) (b : List UInt8) (w : World) (hm : 4 * n = m) (hn : n ≤ 64) (hr : ReadsB w w.heap.size A m b) (hc : m ≤ c) :
    Calls Tryd.prog 75 #[.slice A m c] w fun e w' => ∃ g, e = .returned (.slice (some ⟨g, 0, none⟩) n n) ∧ Blk w' g 32 (Cha.row (Cha.words b n)) ∧ w.heap.size ≤ g ∧ Below w.heap.size w w' := by
  have Hm := hd hm
  clear hm
  obtain ⟨i0, hi0, hz0, hz1, hz2⟩ := info_parts Cha.u32_info
  have hmk : ∀ u : World, (Instr.makeSlice 109 (.int .i64 (n : Int)) (.int .i64 (n : Int))).run Tryd.prog u = .ok (.slice (some ⟨u.heap.size, 0, none⟩) n n) (u.alloc (.cells (madeCells #[.int .u32 0] n) 32)) := fun u => by
    have h := run_make (P := Tryd.prog) (w := u) 109 32 i0 _ Tryd.underlying109 hi0 hz0 .i64 .i64 n n (by omega) (by omega) (by rw [hz2]; omega) (by omega)
    rw [hz1] at h
    simp only [Int.toNat_natCast, Nat.mul_one] at h
    exact h
  have hq : (m : Int) / 4 = (n : Int) := by have := Hm.out; omega
  have hz : madeCells #[.int .u32 0] n = Cha.row (Cha.part b n 0 0) := by
    rw [Cha.part_none]
    apply Array.ext
    · simp [madeCells, Cha.row]
    · intro i h1 h2
      simp [madeCells, Cha.row, Cha.V, Nat.mod_one]
      rfl
  have b0 : Blk (w.alloc (.cells (madeCells #[.int .u32 0] n) 32)) w.heap.size 32 (Cha.row (Cha.part b n 0 0)) := by rw [← hz]; exact Blk.nu rfl
  have hB := (Below.refl w.heap.size w).alloc (Nat.le_refl _) (.cells (madeCells #[.int .u32 0] n) 32)
  clear hz
  go_enter Tryd.func75, Tryd.ntmps75
  go_wp2_with (rw [hmk])
  clear hmk
  go_loopw [12] (fun i wr => ∃ k : Nat, k ≤ n ∧ i = .int .i64 (k : Int) ∧ Blk wr w.heap.size 32 (Cha.row (Cha.part b n k 0)) ∧ Below w.heap.size w wr) (fun i _ => n - (intOf i).toNat)
  case atStart => exact ⟨0, by omega, rfl, b0, hB⟩
  case round =>
    clear b0 hB
    obtain ⟨k, hk, rfl, b0, hB⟩ := hrel
    by_cases hlt : k < n
    · have tk : (k : Int) < (n : Int) := by omega
      obtain ⟨J, HJ⟩ : ∃ J, Hd (4 * k = J) := ⟨_, ⟨rfl⟩⟩
      have eJ : (4 : Int) * (k : Int) = (J : Int) := by have := HJ.out; omega
      have w1 : IntKind.i64.wrap (J : Int) = (J : Int) := IntWalk.i64_in _ (by have := HJ.out; omega)
      go_wp2
      go_loopw [15] (fun i wr => ∃ q : Nat, q ≤ 4 ∧ i = .int .i64 (q : Int) ∧ Blk wr w.heap.size 32 (Cha.row (Cha.part b n k q)) ∧ Below w.heap.size w wr) (fun i _ => 4 - (intOf i).toNat)
      case atStart => exact ⟨0, by omega, rfl, b0, hB⟩
      case round =>
        clear b0 hB
        obtain ⟨q, hq4, rfl, b0, hB⟩ := hrel
        by_cases hlq : q < 4
        · have tq : (q : Int) < 4 := by omega
          obtain ⟨P, HP⟩ : ∃ P, Hd (J + q = P) := ⟨_, ⟨rfl⟩⟩
          have eP : (J : Int) + (q : Int) = (P : Int) := by have := HP.out; omega
          have w2 : IntKind.i64.wrap (P : Int) = (P : Int) := IntWalk.i64_in _ (by have := HJ.out; have := HP.out; omega)
          have tP : (P : Int) < (m : Int) := by have := HJ.out; have := HP.out; have := Hm.out; omega
          obtain ⟨E, HE⟩ : ∃ E, Hd (8 * q = E) := ⟨_, ⟨rfl⟩⟩
          have eE : (8 : Int) * (q : Int) = (E : Int) := by have := HE.out; omega
          have w3 : IntKind.i64.wrap (E : Int) = (E : Int) := IntWalk.i64_in _ (by have := HE.out; omega)
          obtain ⟨ad, hA, had, hcw⟩ := hr.cell (k := P) (by have := HJ.out; have := HP.out; have := Hm.out; omega)
          subst hA
          have cb : wr.cell? (ad.add P) = some (.int .u8 (n8 (nth b P))) := (hB.cell (by rw [block_of_add]; exact had)).trans hcw
          have ck := Cha.Blk.cellW b0 k (by rw [Cha.part_len]; exact hlt)
          rw [Cha.part_at b n k q hlt] at ck
          obtain ⟨x, Hx⟩ : ∃ x, Hd (Cha.wordTo (b.drop (4 * k)) q = x) := ⟨_, ⟨rfl⟩⟩
          rw [Hx.out] at ck
          have fk := b0.frozen k
          have Hnx := hd (show Cha.wordTo (b.drop (4 * k)) (q + 1) = x ||| shl32 (nth b P).toUInt32 E by rw [Cha.wordTo, Hx.out, HE.out, ← HP.out, ← HJ.out]; congr 2; unfold nth; rw [List.getD_eq_getElem?_getD, List.getD_eq_getElem?_getD, List.getElem?_drop])
          have b1 := Cha.Blk.setW b0 k (x ||| shl32 (nth b P).toUInt32 E)
          rw [← Hnx.out, Cha.part_set, Hnx.out] at b1
          have hB1 := hB.setCell (p := ⟨w.heap.size, k, none⟩) (by simp) (.int .u32 ((n32 (x ||| shl32 (nth b P).toUInt32 E) : Nat) : Int))
          clear b0
          go_wp2
          go_region
          go_wp2
          go_roundw
          case rel => exact ⟨q + 1, by omega, by go_num, b1.drew, hB1.drew⟩
          case measure => simp [intOf]; omega
        · have eq : q = 4 := by omega
          subst eq
          have tq : ¬ ((4 : Nat) : Int) < 4 := by omega
          rw [Cha.part_next] at b0
          go_wp2
          go_roundw
          case rel => exact ⟨k + 1, by omega, by go_num, b0, hB⟩
          case measure => simp [intOf]; omega
    · have ek : k = n := by omega
      subst ek
      have tk : ¬ (k : Int) < (k : Int) := by omega
      rw [Cha.part_all] at b0
      go_wp2
      go_ret
      exact ⟨_, rfl, b0, Nat.le_refl _, hB⟩
set_option maxHeartbeats 2000000 in
set_option maxRecDepth 100000 in
theorem Cha.rot_any (x : UInt32) (n : Nat) (hn : n = 16 ∨ n = 12 ∨ n = 8 ∨ n = 7) (w : World) :
    Calls Tryd.prog 77 #[.int .u32 ((n32 x : Nat) : Int), .int .i64 (n : Int)] w fun e w' => e = .returned (.int .u32 ((n32 (Cha.rot x n) : Nat) : Int)) ∧ w = w' := by
  obtain ⟨m, Hm⟩ : ∃ m, Hd (32 - n = m) := ⟨_, ⟨rfl⟩⟩
  have hb : bits .and .u64 (n : Int) 31 = (n : Int) := by rcases hn with rfl | rfl | rfl | rfl <;> kernel_rfl
  have w1 : IntKind.u64.wrap (n : Int) = (n : Int) := by rw [IntKind.wrap_u64]; omega
  have e1 : (32 : Int) - (n : Int) = (m : Int) := by have := Hm.out; omega
  have w2 : IntKind.u64.wrap (m : Int) = (m : Int) := by rw [IntKind.wrap_u64]; have := Hm.out; omega
  have Hr := hd (show Cha.rot x n = shl32 x n ||| shr32 x m by rw [Cha.rot, Hm.out])
  clear hn
  go_enter Tryd.func77, Tryd.ntmps77
  go_wp2
  go_ret
  exact ⟨by rw [Hr.out]; rfl, rfl⟩
theorem Cha.enter_rot (args : Array Value) (w : World) : (callFunc 77 args).run Tryd.prog w = .ok (.enter 77 args) w := by kernel_rfl
set_option maxHeartbeats 4000000 in
set_option maxRecDepth 100000 in
theorem Cha.half_any (g : Nat) (s : List UInt32) (a b c n : Nat) (ha : a < 16) (hb : b < 16) (hc : c < 16) (hn : n = 16 ∨ n = 12 ∨ n = 8 ∨ n = 7) (w : World) (hs : s.length = 16) (h0 : Blk w g 144 (Cha.row s)) :
    Calls Tryd.prog 76 #[.int .i64 (a : Int), .int .i64 (b : Int), .int .i64 (c : Int), .int .i64 (n : Int), .pointer (some ⟨g, 0, none⟩)] w fun e w' => e = .returned (.tuple #[]) ∧ Blk w' g 144 (Cha.row (Cha.half a b c n s)) ∧ w'.heap.size = w.heap.size ∧ w.grownBy w' (some g) := by
  have ta : (a : Int) < 16 := by omega
  have tb : (b : Int) < 16 := by omega
  have tc : (c : Int) < 16 := by omega
  obtain ⟨xa, Ha⟩ : ∃ x, Hd (Cha.at_ s a = x) := ⟨_, ⟨rfl⟩⟩
  obtain ⟨xb, Hb⟩ : ∃ x, Hd (Cha.at_ s b = x) := ⟨_, ⟨rfl⟩⟩
  have ca := Cha.Blk.cellW h0 a (by omega)
  have cb := Cha.Blk.cellW h0 b (by omega)
  rw [Ha.out] at ca
  rw [Hb.out] at cb
  have fa := h0.frozen a
  have b1 := Cha.Blk.setW h0 a (xa + xb)
  obtain ⟨s1, Hs1⟩ : ∃ x, Hd (s.set a (xa + xb) = x) := ⟨_, ⟨rfl⟩⟩
  rw [Hs1.out] at b1
  have Hl := hd (show s1.length = 16 by rw [← Hs1.out, List.length_set, hs])
  have Hhf := hd (show Cha.half a b c n s = s1.set c (Cha.rot (Cha.at_ s1 c ^^^ Cha.at_ s1 a) n) by unfold Cha.half; rw [Ha.out, Hb.out, Hs1.out])
  rw [Hhf.out]
  obtain ⟨xc, Hxc⟩ : ∃ x, Hd (Cha.at_ s1 c = x) := ⟨_, ⟨rfl⟩⟩
  obtain ⟨xd, Hxd⟩ : ∃ x, Hd (Cha.at_ s1 a = x) := ⟨_, ⟨rfl⟩⟩
  rw [Hxc.out, Hxd.out]
  clear h0
  go_enter Tryd.func76, Tryd.ntmps76
  go_wp2
  go_region
  go_wp2
  refine wp_name (fun W => Blk W g 144 (Cha.row s1) ∧ W.heap.size = w.heap.size ∧ w.grownBy W (some g)) ⟨b1.drew, by simp, grew_drew (grew_setCell (World.grownBy.refl w (some g)) a _)⟩ ?_
  rintro W ⟨b1, z1, o1⟩
  have cc := Cha.Blk.cellW b1 c (by rw [Hl.out]; exact hc)
  have cd := Cha.Blk.cellW b1 a (by rw [Hl.out]; exact ha)
  rw [Hxc.out] at cc
  rw [Hxd.out] at cd
  have fc := b1.frozen c
  have b2 := Cha.Blk.setW b1 c (Cha.rot (xc ^^^ xd) n)
  clear ca cb fa b1
  go_region_with (go_at_call 77; refine (Cha.rot_any (xc ^^^ xd) n hn _).mono ?_; rintro e w' ⟨rfl, rfl⟩)
  all_goals go_wp2
  all_goals go_end0
  all_goals exact ⟨rfl, b2.drew, by simpa using z1, grew_drew (grew_setCell o1 c _)⟩
theorem Cha.frozenZ {w : World} {z g : Nat} {l : List UInt32} {f : Value} (hz : Blk w z 147 #[f]) (hg : Blk w g 144 (Cha.row l)) : z ≠ g := hz.ne_ hg (by decide)
def Cha.halfV (g : Nat) : Value := .func (.func 76) #[] #[.pointer (some ⟨g, 0, none⟩)]
def Cha.quarterV (z : Nat) : Value := .func (.func 78) #[] #[.pointer (some ⟨z, 0, none⟩)]
set_option maxHeartbeats 4000000 in
set_option maxRecDepth 100000 in
theorem Cha.quarter_any (z g : Nat) (s : List UInt32) (a b c d : Nat) (ha : a < 16) (hb : b < 16) (hc : c < 16) (hd_ : d < 16) (w : World) (hs : s.length = 16) (h0 : Blk w g 144 (Cha.row s))
    (hz : Blk w z 147 #[Cha.halfV g]) :
    Calls Tryd.prog 78 #[.int .i64 (a : Int), .int .i64 (b : Int), .int .i64 (c : Int), .int .i64 (d : Int), .pointer (some ⟨z, 0, none⟩)] w fun e w' => e = .returned (.tuple #[]) ∧ Blk w' g 144 (Cha.row (Cha.quarter a b c d s)) ∧ w'.heap.size = w.heap.size ∧ w.grownBy w' (some g) := by
  obtain ⟨s1, Hs1⟩ : ∃ x, Hd (Cha.half a b d 16 s = x) := ⟨_, ⟨rfl⟩⟩
  obtain ⟨s2, Hs2⟩ : ∃ x, Hd (Cha.half c d b 12 s1 = x) := ⟨_, ⟨rfl⟩⟩
  obtain ⟨s3, Hs3⟩ : ∃ x, Hd (Cha.half a b d 8 s2 = x) := ⟨_, ⟨rfl⟩⟩
  obtain ⟨s4, Hs4⟩ : ∃ x, Hd (Cha.half c d b 7 s3 = x) := ⟨_, ⟨rfl⟩⟩
  have Hq := hd (show Cha.quarter a b c d s = s4 by unfold Cha.quarter; rw [Hs1.out, Hs2.out, Hs3.out, Hs4.out])
  have L1 := hd (show s1.length = 16 by rw [← Hs1.out, Cha.half_len, hs])
  have L2 := hd (show s2.length = 16 by rw [← Hs2.out, Cha.half_len, L1.out])
  have L3 := hd (show s3.length = 16 by rw [← Hs3.out, Cha.half_len, L2.out])
  rw [Hq.out]
  have hne := Cha.frozenZ hz h0
  have cz := hz.cell 0
  simp only [Cha.halfV, List.getElem?_toArray, List.getElem?_cons_zero] at cz
  go_enter Tryd.func78, Tryd.ntmps78
  go_wp2_with (first
    | (go_at_call 76; refine (Cha.half_any g s a b d 16 ha hb hd_ (Or.inl rfl) w hs h0).mono ?_; rintro e w1 ⟨rfl, b1, z1, g1⟩; rw [Hs1.out] at b1; have hz1 := hz.grown g1 (by simp [hne]); have cz1 := hz1.cell 0; simp only [Cha.halfV, List.getElem?_toArray, List.getElem?_cons_zero] at cz1; clear h0 hz cz)
    | (go_at_call 76; refine (Cha.half_any g s1 c d b 12 hc hd_ hb (Or.inr (Or.inl rfl)) w1 L1.out b1).mono ?_; rintro e w2 ⟨rfl, b2, z2, g2⟩; rw [Hs2.out] at b2; have hz2 := hz1.grown g2 (by simp [hne]); have cz2 := hz2.cell 0; simp only [Cha.halfV, List.getElem?_toArray, List.getElem?_cons_zero] at cz2; clear b1 hz1 cz1)
    | (go_at_call 76; refine (Cha.half_any g s2 a b d 8 ha hb hd_ (Or.inr (Or.inr (Or.inl rfl))) w2 L2.out b2).mono ?_; rintro e w3 ⟨rfl, b3, z3, g3⟩; rw [Hs3.out] at b3; have hz3 := hz2.grown g3 (by simp [hne]); have cz3 := hz3.cell 0; simp only [Cha.halfV, List.getElem?_toArray, List.getElem?_cons_zero] at cz3; clear b2 hz2 cz2)
    | (go_at_call 76; refine (Cha.half_any g s3 c d b 7 hc hd_ hb (Or.inr (Or.inr (Or.inr rfl))) w3 L3.out b3).mono ?_; rintro e w4 ⟨rfl, b4, z4, g4⟩; rw [Hs4.out] at b4))
  go_end0
  exact ⟨rfl, b4, by omega, ((g1.trans g2).trans g3).trans g4⟩
end Go.Proofs.YthigbggacgiamaaDoor
