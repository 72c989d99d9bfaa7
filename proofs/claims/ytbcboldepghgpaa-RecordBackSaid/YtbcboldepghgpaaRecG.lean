/-
  The walks of layer 18's live question, of its keys and ivs.
-/
import Derived.Test.YtbcboldepghgpaaRecF
set_option linter.unusedVariables false
set_option linter.unusedSimpArgs false
set_option maxRecDepth 100000
namespace Go.Proofs.Ytbcboldepghgpaa
open Go.RowKit
namespace Rec
def keyOf (n : Nat) (b : List UInt8) : List UInt8 := iter (Suite.fillStep b) (min n b.length) (List.replicate n 0)
theorem keyOf_len (n : Nat) (b : List UInt8) : (keyOf n b).length = n := by rw [keyOf, Suite.fillStep_len, List.length_replicate]
def ivStep (b : List UInt8) (i : Nat) (s : List UInt8) : List UInt8 := s.set i (nth b (b.length - 1 - i))
theorem ivStep_len (b s : List UInt8) (k : Nat) : (iter (ivStep b) k s).length = s.length := iter_keeps _ _ (fun k s => by simp [ivStep]) k s
def ivOf (b : List UInt8) : List UInt8 := iter (ivStep b) (min 12 b.length) (List.replicate 12 0)
theorem ivOf_len (b : List UInt8) : (ivOf b).length = 12 := by rw [ivOf, ivStep_len, List.length_replicate]
/-- An Op's cells. -/
def opc (call : Int) (B : Value) (s : UInt16) (t : Int) (n : Int) : Array Value := #[.int .i64 call, B, .int .u16 ((n16 s : Nat) : Int), .int .u8 t, .int .i64 n]
end Rec
theorem rKeyLen_ok (s : UInt16) (n : Nat) (h : Suite.Ok s n) (w : World) : Calls Try.prog 37 #[.int .u16 ((n16 s : Nat) : Int)] w fun e w' => e = .returned (.int .i64 (n : Int)) ∧ Below w.heap.size w w' := by
  rcases h with ⟨rfl, rfl⟩ | ⟨rfl, rfl⟩ | ⟨rfl, rfl⟩
  · exact rKeyLen_128 w
  · exact rKeyLen_256 w
  · exact rKeyLen_cha w
set_option maxHeartbeats 4000000 in
set_option maxRecDepth 100000 in
theorem Rec.key_any (call : Int) (A : Option Addr) (n c : Nat) (b : List UInt8) (s : UInt16) (n0 : Nat) (hs : Suite.Ok s n0) (t : Int) (w : World) (hr : ReadsB w w.heap.size A n b) :
    Calls Try.prog 16 #[.agg (Rec.opc call (.slice A n c) s t 0)] w fun e w' => ∃ v, e = .returned v ∧ OwnB w' w.heap.size v (Rec.keyOf n0 b) ∧ Below w.heap.size w w' := by
  have Hs := hd hs
  have Hb := hd hr.len
  have Hn0 := hd (show n0 ≤ 32 by rcases hs with ⟨_, h⟩ | ⟨_, h⟩ | ⟨_, h⟩ <;> omega)
  clear hs
  have hB0 := (Below.refl w.heap.size w).alloc (Nat.le_refl _) (.cells (Rec.opc call (.slice A n c) s t 0) 34)
  have b0 : Blk (w.alloc (.cells (Rec.opc call (.slice A n c) s t 0) 34)) w.heap.size 34 (Rec.opc call (.slice A n c) s t 0) := Blk.nu rfl
  have c2 : (w.alloc (.cells (Rec.opc call (.slice A n c) s t 0) 34)).cell? ⟨w.heap.size, 2, none⟩ = some (.int .u16 ((n16 s : Nat) : Int)) := b0.cell 2
  go_enter Try.func16, Try.ntmps16
  go_wp2_with fail
  refine (rKeyLen_ok s n0 Hs.out _).mono ?_
  rintro e W1 ⟨rfl, hE⟩
  have b1 := b0.below hE b0.lt
  have hB1 := hB0.trans (hE.mono hB0.size)
  clear b0 hB0 c2 hE
  have c4 : W1.cell? ⟨w.heap.size, 4, none⟩ = some (.int .i64 0) := b1.cell 4
  go_wp2_with (refine wpl_makeB rfl _ _ rfl w.heap.size n0 rfl rfl (by have := Hn0.out; omega) hB1.size ?_; intro w2 own2 gr2)
  have hB2 := below_none hB1 gr2 hB1.size
  have b2 := b1.grown gr2 (by intro e; cases e)
  have hE0 : w.heap.size + 1 ≤ W1.heap.size := by have := b1.lt; omega
  clear b1 hB1 c4 gr2
  obtain ⟨z, Hz⟩ : ∃ z, Hd (W1.heap.size = z) := ⟨_, ⟨rfl⟩⟩
  rw [Hz.out] at own2 ⊢
  have hz : w.heap.size < z := by rw [← Hz.out]; have := hE0; omega
  go_loopw [5] (fun i wr => ∃ k : Nat, k ≤ min n0 n ∧ i = .int .i64 (k : Int) ∧ OwnB wr w.heap.size (.slice (some ⟨z, 0, none⟩) n0 n0) (iter (Suite.fillStep b) k (List.replicate n0 0)) ∧ Blk wr w.heap.size 34 (Rec.opc call (.slice A n c) s t 0) ∧ Below w.heap.size w wr) (fun i _ => min n0 n - (intOf i).toNat)
  case atStart => exact ⟨0, by omega, rfl, own2, b2, hB2⟩
  case round =>
    clear own2 b2 hB2
    obtain ⟨k, hk, rfl, own, b0, hB⟩ := hrel
    obtain ⟨l, Hl⟩ : ∃ l, Hd (iter (Suite.fillStep b) k (List.replicate n0 0) = l) := ⟨_, ⟨rfl⟩⟩
    rw [Hl.out] at own
    have Ll := hd (show l.length = n0 by rw [← Hl.out, Suite.fillStep_len, List.length_replicate])
    have c1 : wr.cell? ⟨w.heap.size, 1, none⟩ = some (.slice A n c) := b0.cell 1
    by_cases h1 : k < n0
    · have t1 : (k : Int) < (n0 : Int) := by omega
      have hk32 : k < 32 := by have := Hn0.out; omega
      by_cases h2 : k < n
      · have t2 : (k : Int) < (n : Int) := by omega
        obtain ⟨ad, hA, had, hcw⟩ := hr.cell h2
        subst hA
        have c0 : wr.cell? (ad.add k) = some (.int .u8 (n8 (nth b k))) := (hB.cell (by rw [block_of_add]; exact had)).trans hcw
        have own' : OwnB wr w.heap.size (.slice (some ⟨z, 0, none⟩) l.length n0) l := by rw [Ll.out]; exact own
        have c3 := own'.cell k (by rw [Ll.out]; exact h1)
        have f3 := own'.frozen k
        have Hown := hd own'
        clear own own'
        go_wp2
        go_roundw
        case rel =>
          have own5 := Hown.out.set_ k (nth b k)
          rw [Ll.out] at own5
          exact ⟨k + 1, by omega, by go_num, by rw [iter, Hl.out]; exact own5, b0.far (by simp only []; omega) _, hB.setCell (by simp only []; omega) _⟩
        case measure => simp [intOf]; omega
      · have t2 : ¬ (k : Int) < (n : Int) := by omega
        have Hfin := hd (show Rec.keyOf n0 b = l by unfold Rec.keyOf; rw [← Hl.out, Hb.out, show min n0 n = k by omega])
        go_wp2
        go_ret
        exact ⟨_, rfl, by rw [Hfin.out]; exact own, hB⟩
    · have t1 : ¬ (k : Int) < (n0 : Int) := by omega
      have Hfin := hd (show Rec.keyOf n0 b = l by unfold Rec.keyOf; rw [← Hl.out, Hb.out, show min n0 n = k by omega])
      go_wp2
      go_ret
      exact ⟨_, rfl, by rw [Hfin.out]; exact own, hB⟩
set_option maxHeartbeats 4000000 in
set_option maxRecDepth 100000 in
theorem Rec.iv_any (call : Int) (A : Option Addr) (n c : Nat) (b : List UInt8) (s : UInt16) (t : Int) (N : Int) (w : World) (hr : ReadsB w w.heap.size A n b) (hn : n ≤ 9223372036854775807) :
    Calls Try.prog 17 #[.agg (Rec.opc call (.slice A n c) s t N)] w fun e w' => e = .returned (.agg (arr (Rec.ivOf b))) ∧ Below w.heap.size w w' := by
  have Hb := hd hr.len
  have b0 : Blk (((w.alloc (.cells (Rec.opc call (.slice A n c) s t N) 34)).alloc (.cells (arr (List.replicate 12 0)) 25)).alloc (.cells (arr (List.replicate 12 0)) 25)) w.heap.size 34 (Rec.opc call (.slice A n c) s t N) := ((Blk.nu rfl).alloc _).alloc _
  have b1 : Blk (((w.alloc (.cells (Rec.opc call (.slice A n c) s t N) 34)).alloc (.cells (arr (List.replicate 12 0)) 25)).alloc (.cells (arr (List.replicate 12 0)) 25)) (w.heap.size + 1) 25 (arr (List.replicate 12 0)) := (Blk.nu (by simp)).alloc _
  have b2 : Blk (((w.alloc (.cells (Rec.opc call (.slice A n c) s t N) 34)).alloc (.cells (arr (List.replicate 12 0)) 25)).alloc (.cells (arr (List.replicate 12 0)) 25)) (w.heap.size + 1 + 1) 25 (arr (List.replicate 12 0)) := Blk.nu (by simp)
  have hB : Below w.heap.size w (((w.alloc (.cells (Rec.opc call (.slice A n c) s t N) 34)).alloc (.cells (arr (List.replicate 12 0)) 25)).alloc (.cells (arr (List.replicate 12 0)) 25)) := (((Below.refl _ _).alloc (Nat.le_refl _) _).alloc (by simp) _).alloc (by simp; omega) _
  go_enter Try.func17, Try.ntmps17
  go_wp2_with (first | (refine wpl_alloc rfl 25 rfl _ zero12n ?_; simp only [World.size_alloc]))
  refine wp_name (fun W => Blk W w.heap.size 34 (Rec.opc call (.slice A n c) s t N) ∧ Blk W (w.heap.size + 1) 25 (arr (List.replicate 12 0)) ∧ Blk W (w.heap.size + 1 + 1) 25 (arr (List.replicate 12 0)) ∧ Below w.heap.size w W) ⟨b0, b1, b2, hB⟩ ?_
  clear b0 b1 b2 hB
  rintro W0 ⟨b0, b1, b2, hB⟩
  go_loopw [4] (fun i wr => ∃ k : Nat, k ≤ min 12 n ∧ i = .int .i64 (k : Int) ∧ Blk wr (w.heap.size + 1 + 1) 25 (arr (iter (Rec.ivStep b) k (List.replicate 12 0))) ∧ Blk wr w.heap.size 34 (Rec.opc call (.slice A n c) s t N) ∧ Blk wr (w.heap.size + 1) 25 (arr (List.replicate 12 0)) ∧ Below w.heap.size w wr) (fun i _ => min 12 n - (intOf i).toNat)
  case atStart => exact ⟨0, by omega, rfl, b2, b0, b1, hB⟩
  case round =>
    clear b0 b1 b2 hB
    obtain ⟨k, hk, rfl, b2, b0, b1, hB⟩ := hrel
    obtain ⟨l, Hl⟩ : ∃ l, Hd (iter (Rec.ivStep b) k (List.replicate 12 0) = l) := ⟨_, ⟨rfl⟩⟩
    rw [Hl.out] at b2
    have Ll := hd (show l.length = 12 by rw [← Hl.out, Rec.ivStep_len, List.length_replicate])
    have c1 : wr.cell? ⟨w.heap.size, 1, none⟩ = some (.slice A n c) := b0.cell 1
    by_cases h1 : k < 12
    · have t1 : (k : Int) < 12 := by omega
      by_cases h2 : k < n
      · have t2 : (k : Int) < (n : Int) := by omega
        obtain ⟨m1, e1, v1⟩ : ∃ m : Nat, (n : Int) - 1 = (m : Int) ∧ m = n - 1 := ⟨n - 1, by omega, rfl⟩
        obtain ⟨m2, e2, v2⟩ : ∃ m : Nat, (m1 : Int) - (k : Int) = (m : Int) ∧ m = n - 1 - k := ⟨n - 1 - k, by omega, rfl⟩
        have i1 : IntKind.i64.wrap (m1 : Int) = (m1 : Int) := IntWalk.i64_in _ (by omega)
        have i2 : IntKind.i64.wrap (m2 : Int) = (m2 : Int) := IntWalk.i64_in _ (by omega)
        have h3 : m2 < n := by omega
        have t3 : (m2 : Int) < (n : Int) := by omega
        have Hnx := hd (show iter (Rec.ivStep b) (k + 1) (List.replicate 12 0) = l.set k (nth b m2) by rw [iter, Hl.out, Rec.ivStep, Hb.out, v2])
        clear v1 v2
        obtain ⟨ad, hA, had, hcw⟩ := hr.cell h3
        subst hA
        have c0 : wr.cell? (ad.add m2) = some (.int .u8 (n8 (nth b m2))) := (hB.cell (by rw [block_of_add]; exact had)).trans hcw
        have c3 := b2.arr_cell k (by rw [Ll.out]; exact h1)
        have f3 := b2.frozen k
        go_wp2
        go_roundw
        case rel =>
          exact ⟨k + 1, by omega, by go_num, by rw [Hnx.out]; exact b2.arr_set _ _, b0.far (by simp only []; omega) _, b1.far (by simp only []; omega) _, hB.setCell (by simp only []; omega) _⟩
        case measure => simp [intOf]; omega
      · have t2 : ¬ (k : Int) < (n : Int) := by omega
        have Hfin := hd (show Rec.ivOf b = l by unfold Rec.ivOf; rw [← Hl.out, Hb.out, show min 12 n = k by omega])
        go_wp2_with (first | (refine wpl_load_arr rfl 25 _ rfl _ rfl 12 ty12 l Ll.out b2.cells_arr ?_) | (refine wpl_store_arr rfl 25 _ _ rfl (w.heap.size + 1) l rfl rfl 25 _ b1 12 ty12.size Ll.out (by rw [arr_size, List.length_replicate]) ?_))
        rw [Hfin.out]
        exact ret_arr rfl (w.heap.size + 1) rfl ty12 l Ll.out (b1.setRow _).cells_arr rfl ⟨rfl, below_setRow hB (by omega) _⟩
    · have t1 : ¬ (k : Int) < 12 := by omega
      have Hfin := hd (show Rec.ivOf b = l by unfold Rec.ivOf; rw [← Hl.out, Hb.out, show min 12 n = k by omega])
      go_wp2_with (first | (refine wpl_load_arr rfl 25 _ rfl _ rfl 12 ty12 l Ll.out b2.cells_arr ?_) | (refine wpl_store_arr rfl 25 _ _ rfl (w.heap.size + 1) l rfl rfl 25 _ b1 12 ty12.size Ll.out (by rw [arr_size, List.length_replicate]) ?_))
      rw [Hfin.out]
      exact ret_arr rfl (w.heap.size + 1) rfl ty12 l Ll.out (b1.setRow _).cells_arr rfl ⟨rfl, below_setRow hB (by omega) _⟩
end Go.Proofs.Ytbcboldepghgpaa
