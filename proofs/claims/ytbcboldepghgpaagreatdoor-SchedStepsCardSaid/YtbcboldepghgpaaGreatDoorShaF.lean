/-
  The walks of a digest's beginning and of its copy.
-/
import Derived.Test.YtbcboldepghgpaaGreatDoorShaE
set_option linter.unusedVariables false
set_option linter.unusedSimpArgs false
set_option maxRecDepth 100000
namespace Go.Proofs.YtbcboldepghgpaaGreatDoor
open Go.RowKit
namespace Sha
def iv1 : List UInt32 := [1779033703, 3144134277, 1013904242, 2773480762, 1359893119, 2600822924, 528734635, 1541459225]
def iv2 : List UInt64 := [14680500436340154072, 7105036623409894663, 10473403895298186519, 1526699215303891257, 7436329637833083697, 10282925794625328401, 15784041429090275239, 5167115440072839076]
def iv3 : List UInt64 := [7640891576956012808, 13503953896175478587, 4354685564936845355, 11912009170470909681, 5840696475078001361, 11170449401992604703, 2270897969802886507, 6620516959819538809]
def no32 : List UInt32 := [0, 0, 0, 0, 0, 0, 0, 0]
def no64 : List UInt64 := [0, 0, 0, 0, 0, 0, 0, 0]
end Sha
theorem builtDig_1 : Tryz.prog.built 70 [(0, .int .i64 1)] = some (dig 1 Sha.no32 Sha.no64 (.slice none 0 0) 0) := by kernel_rfl
theorem sizeDig_1 : 1 + (Sha.iv1.map W32).length ≤ (dig 1 Sha.no32 Sha.no64 (.slice none 0 0) 0).size := by decide +kernel
theorem splicedIv_1 : splice (dig 1 Sha.no32 Sha.no64 (.slice none 0 0) 0) 1 (Sha.iv1.map W32) = dig 1 Sha.iv1 Sha.no64 (.slice none 0 0) 0 := by kernel_rfl
set_option maxHeartbeats 2000000 in
set_option maxRecDepth 100000 in
theorem new_1 (w : World) : Calls Tryz.prog 39 #[.int .i64 1] w fun e w' => e = .returned (.pointer (some ⟨w.heap.size, 0, none⟩)) ∧ Blk w' w.heap.size 70 (dig 1 Sha.iv1 Sha.no64 (.slice none 0 0) 0) ∧ Below w.heap.size w w' := by
  have b0 : Blk (w.alloc (.cells (dig 1 Sha.no32 Sha.no64 (.slice none 0 0) 0) 70)) w.heap.size 70 (dig 1 Sha.no32 Sha.no64 (.slice none 0 0) 0) := Blk.nu rfl
  have hB := (Below.refl w.heap.size w).alloc (Nat.le_refl _) (.cells (dig 1 Sha.no32 Sha.no64 (.slice none 0 0) 0) 70)
  go_enter Tryz.func39, Tryz.ntmps39
  go_wp2_with (first | (refine wpl_build rfl 70 _ rfl [(0, .int .i64 1)] rfl _ builtDig_1 ?_) | (refine wpl_store rfl 67 _ _ rfl w.heap.size 1 (Sha.iv1.map W32) rfl rfl 70 _ b0 (by kernel_rfl) sizeDig_1 (by intro v hv; obtain ⟨x, _, rfl⟩ := List.mem_map.1 hv; rfl) ?_; rw [splicedIv_1]))
  go_ret
  exact ⟨rfl, b0.setRow _, below_setRow hB (Nat.le_refl _) _⟩
theorem builtDig_2 : Tryz.prog.built 70 [(0, .int .i64 2)] = some (dig 2 Sha.no32 Sha.no64 (.slice none 0 0) 0) := by kernel_rfl
theorem sizeDig_2 : 9 + (Sha.iv2.map W64).length ≤ (dig 2 Sha.no32 Sha.no64 (.slice none 0 0) 0).size := by decide +kernel
theorem splicedIv_2 : splice (dig 2 Sha.no32 Sha.no64 (.slice none 0 0) 0) 9 (Sha.iv2.map W64) = dig 2 Sha.no32 Sha.iv2 (.slice none 0 0) 0 := by kernel_rfl
set_option maxHeartbeats 2000000 in
set_option maxRecDepth 100000 in
theorem new_2 (w : World) : Calls Tryz.prog 39 #[.int .i64 2] w fun e w' => e = .returned (.pointer (some ⟨w.heap.size, 0, none⟩)) ∧ Blk w' w.heap.size 70 (dig 2 Sha.no32 Sha.iv2 (.slice none 0 0) 0) ∧ Below w.heap.size w w' := by
  have b0 : Blk (w.alloc (.cells (dig 2 Sha.no32 Sha.no64 (.slice none 0 0) 0) 70)) w.heap.size 70 (dig 2 Sha.no32 Sha.no64 (.slice none 0 0) 0) := Blk.nu rfl
  have hB := (Below.refl w.heap.size w).alloc (Nat.le_refl _) (.cells (dig 2 Sha.no32 Sha.no64 (.slice none 0 0) 0) 70)
  go_enter Tryz.func39, Tryz.ntmps39
  go_wp2_with (first | (refine wpl_build rfl 70 _ rfl [(0, .int .i64 2)] rfl _ builtDig_2 ?_) | (refine wpl_store rfl 68 _ _ rfl w.heap.size 9 (Sha.iv2.map W64) rfl rfl 70 _ b0 (by kernel_rfl) sizeDig_2 (by intro v hv; obtain ⟨x, _, rfl⟩ := List.mem_map.1 hv; rfl) ?_; rw [splicedIv_2]))
  go_ret
  exact ⟨rfl, b0.setRow _, below_setRow hB (Nat.le_refl _) _⟩
theorem builtDig_3 : Tryz.prog.built 70 [(0, .int .i64 3)] = some (dig 3 Sha.no32 Sha.no64 (.slice none 0 0) 0) := by kernel_rfl
theorem sizeDig_3 : 9 + (Sha.iv3.map W64).length ≤ (dig 3 Sha.no32 Sha.no64 (.slice none 0 0) 0).size := by decide +kernel
theorem splicedIv_3 : splice (dig 3 Sha.no32 Sha.no64 (.slice none 0 0) 0) 9 (Sha.iv3.map W64) = dig 3 Sha.no32 Sha.iv3 (.slice none 0 0) 0 := by kernel_rfl
set_option maxHeartbeats 2000000 in
set_option maxRecDepth 100000 in
theorem new_3 (w : World) : Calls Tryz.prog 39 #[.int .i64 3] w fun e w' => e = .returned (.pointer (some ⟨w.heap.size, 0, none⟩)) ∧ Blk w' w.heap.size 70 (dig 3 Sha.no32 Sha.iv3 (.slice none 0 0) 0) ∧ Below w.heap.size w w' := by
  have b0 : Blk (w.alloc (.cells (dig 3 Sha.no32 Sha.no64 (.slice none 0 0) 0) 70)) w.heap.size 70 (dig 3 Sha.no32 Sha.no64 (.slice none 0 0) 0) := Blk.nu rfl
  have hB := (Below.refl w.heap.size w).alloc (Nat.le_refl _) (.cells (dig 3 Sha.no32 Sha.no64 (.slice none 0 0) 0) 70)
  go_enter Tryz.func39, Tryz.ntmps39
  go_wp2_with (first | (refine wpl_build rfl 70 _ rfl [(0, .int .i64 3)] rfl _ builtDig_3 ?_) | (refine wpl_store rfl 68 _ _ rfl w.heap.size 9 (Sha.iv3.map W64) rfl rfl 70 _ b0 (by kernel_rfl) sizeDig_3 (by intro v hv; obtain ⟨x, _, rfl⟩ := List.mem_map.1 hv; rfl) ?_; rw [splicedIv_3]))
  go_ret
  exact ⟨rfl, b0.setRow _, below_setRow hB (Nat.le_refl _) _⟩
theorem ty_dig : AggT Tryz.prog 70 19 := ⟨by kernel_rfl, by kernel_rfl⟩
theorem zero_dig : (Tryz.prog.info? 70).bind (·.zero) = some (.agg (dig 0 Sha.no32 Sha.no64 (.slice none 0 0) 0)) := by kernel_rfl
theorem dig_size {h : Int} {a : List UInt32} {b : List UInt64} {rest : Value} {n : UInt64} (ha : a.length = 8) (hb : b.length = 8) : (dig h a b rest n).size = 19 := by
  unfold dig; rw [Array.size_append, dig_pre ha hb]; rfl
theorem dig_one {h : Int} {a : List UInt32} {b : List UInt64} {A : Option Addr} {r c : Nat} {n : UInt64} : ∀ v ∈ (dig h a b (.slice A r c) n).toList, v.oneCell' = true := by
  intro v hv
  unfold dig arr32 arr64 at hv
  simp only [Array.toList_append, List.mem_append, List.mem_map, List.mem_cons, List.not_mem_nil, or_false] at hv
  rcases hv with ((rfl | ⟨x, _, rfl⟩) | ⟨x, _, rfl⟩) | (rfl | rfl) <;> rfl
set_option maxHeartbeats 2000000 in
set_option maxRecDepth 100000 in
theorem clone_any (g : Nat) (h : Int) (a : List UInt32) (b : List UInt64) (ha : a.length = 8) (hb : b.length = 8) (A : Option Addr) (r c : Nat) (N : UInt64) (B : Nat) (l : List UInt8) (w : World) (hdg : Blk w g 70 (dig h a b (.slice A r c) N)) (hrd : ReadsB w B A r l) (hB : B ≤ w.heap.size) (hr : r ≤ 140737488355328) :
    Calls Tryz.prog 64 #[.pointer (some ⟨g, 0, none⟩)] w fun e w' => e = .returned (.pointer (some ⟨w.heap.size, 0, none⟩)) ∧ ∃ A' c', Blk w' w.heap.size 70 (dig h a b (.slice A' r c') N) ∧ ReadsB w' w'.heap.size A' r l ∧ r ≤ c' ∧ (A' = none → r = 0) ∧ (∀ ad, A' = some ad → w.heap.size < ad.block ∧ ad.block < w'.heap.size) ∧ Below w.heap.size w w' := by
  have Ha := hd ha
  have Hb := hd hb
  clear ha hb
  have hl := hrd.len
  have Hl := hd hl
  have hglt := hdg.lt
  have hcells : Cells w ⟨g, 0, none⟩ (dig h a b (.slice A r c) N).toList := hdg.cells_at 0 _ (fun j v hv => by rw [Nat.zero_add, ← Array.getElem?_toList]; exact hv)
  have b0 : Blk (w.alloc (.cells (dig 0 Sha.no32 Sha.no64 (.slice none 0 0) 0) 70)) w.heap.size 70 (dig 0 Sha.no32 Sha.no64 (.slice none 0 0) 0) := Blk.nu rfl
  have hB0 := (Below.refl w.heap.size w).alloc (Nat.le_refl _) (.cells (dig 0 Sha.no32 Sha.no64 (.slice none 0 0) 0) 70)
  have b1 := b0.setRow (dig h a b (.slice A r c) N)
  have hB1 := below_setRow hB0 (Nat.le_refl w.heap.size) (dig h a b (.slice A r c) N)
  go_enter Tryz.func64, Tryz.ntmps64
  go_wp2_with (first | (refine wpl_load rfl 70 _ rfl ⟨g, 0, none⟩ rfl 19 ty_dig (dig h a b (.slice A r c) N).toList (by rw [Array.length_toList, dig_size Ha.out Hb.out]) hcells ?_; rw [Array.toArray_toList]) | (refine wpl_alloc rfl 70 rfl _ zero_dig ?_) | (refine wpl_store rfl 70 _ _ rfl w.heap.size 0 (dig h a b (.slice A r c) N).toList rfl (by rw [Array.toArray_toList]; rfl) 70 _ b0 (by rw [Array.length_toList, dig_size Ha.out Hb.out]; exact ty_dig.size) (by rw [Array.length_toList, dig_size Ha.out Hb.out, dig_size (by rfl) (by rfl)]; omega) dig_one ?_; rw [splice_all _ _ (by rw [Array.length_toList, dig_size Ha.out Hb.out, dig_size (by rfl) (by rfl)]), Array.toArray_toList]; refine wpl_name (fun wo => Blk wo w.heap.size 70 (dig h a b (.slice A r c) N) ∧ Below w.heap.size w wo) ⟨b1, hB1⟩ ?_; clear b0 hB0 b1 hB1; rintro wo ⟨bz, hBz⟩; have c17 : wo.cell? ⟨g, 17, none⟩ = some (.slice A r c) := (hBz.cell (p := ⟨g, 17, none⟩) hglt).trans ((hdg.cell 17).trans (dig_rest Ha.out Hb.out)); have own0 : OwnB wo (w.heap.size + 1) (.slice none 0 0) [] := OwnB.nil _ _; have hr1 : ReadsB wo w.heap.size A r l := ⟨hl, (hrd.is.more hB).below hBz⟩; have hBs : w.heap.size + 1 ≤ wo.heap.size := bz.lt) | (at_builtin; refine wpl_appendB rfl _ _ rfl (w.heap.size + 1) (.slice none 0 0) [] rfl own0 w.heap.size A r c l rfl hr1 (by simp; omega) hBs ?_; intro v2 w2 own2 gr2 at2; rw [List.nil_append] at own2; obtain ⟨A2, cp2, e2⟩ := own2.slice; rw [Hl.out] at e2; subst e2; have bz2 := bz.appended own0 gr2 (by decide); have hBz2 := below_appended hBz own0 gr2 (Nat.le_succ _) (Nat.le_of_succ_le hBs); have f17 := bz2.frozen 17; have cz17 := (bz2.cell 17).trans (dig_rest Ha.out Hb.out)))
  have b5 := bz2.set_ 17 (.slice A2 r cp2)
  rw [dig_set_rest Ha.out Hb.out] at b5
  have hB5 := hBz2.setCell (p := ⟨w.heap.size, 17, none⟩) (Nat.le_refl _) (.slice A2 r cp2)
  have hK5 : Kept w2.heap.size w.heap.size w2 (w2.setCell ⟨w.heap.size, 17, none⟩ (.slice A2 r cp2)) := grown_kept (grew_setCell (World.grownBy.refl w2 (some w.heap.size)) 17 _) (fun k hk => .inr (by injection hk with hk; exact hk.symm)) (Nat.le_refl _)
  have hne : ∀ ad, A2 = some ad → w.heap.size < ad.block := fun ad e => by
    subst e
    rcases own2.own.2 with ⟨e, _⟩ | ⟨g', cap, cur, e, hg', _⟩
    · cases e
    · injection e with e1 _ _
      injection e1 with e1
      subst e1
      show w.heap.size < g'
      omega
  have hlt2 : ∀ ad, A2 = some ad → ad.block < w2.heap.size := fun ad e => by
    subst e
    rcases own2.own.2 with ⟨e, _⟩ | ⟨g', cap, cur, e, hg', hh, _⟩
    · cases e
    · injection e with e1 _ _
      injection e1 with e1
      subst e1
      rcases Nat.lt_or_ge g' w2.heap.size with h | h
      · exact h
      · rw [Array.getElem?_eq_none h] at hh; cases hh
  have hnone : A2 = none → r = 0 := fun e => by
    subst e
    rcases own2.own.2 with ⟨e, h0⟩ | ⟨g', cap, cur, e, _⟩
    · have : l.length = 0 := by simpa using h0
      omega
    · injection e with e1 _ _; cases e1
  have hcap : r ≤ cp2 := by
    rcases own2.own.2 with ⟨e, h0⟩ | ⟨g', cap, cur, e, _, _, hnc, _⟩
    · injection e with _ e2 e3; omega
    · injection e with _ e2 e3; omega
  have hr5 := reads_kept32 own2.reads_any.2 hK5 (fun ad e => Nat.ne_of_gt (hne ad e))
  go_ret
  exact ⟨rfl, A2, cp2, b5, ⟨hr5.len, hr5.is.more hK5.size⟩, hcap, hnone, fun ad e => ⟨hne ad e, Nat.lt_of_lt_of_le (hlt2 ad e) hK5.size⟩, hB5⟩
end Go.Proofs.YtbcboldepghgpaaGreatDoor
