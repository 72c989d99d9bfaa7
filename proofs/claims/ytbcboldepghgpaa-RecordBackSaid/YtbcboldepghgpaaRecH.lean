/-
  The walk of layer 18's live question.
-/
import Derived.Test.YtbcboldepghgpaaRecG
set_option linter.unusedVariables false
set_option linter.unusedSimpArgs false
set_option maxRecDepth 100000
namespace Go.Proofs.Ytbcboldepghgpaa
open Go.RowKit
set_option maxHeartbeats 4000000 in
set_option maxRecDepth 100000 in
theorem head18_any (w : World) : Calls Try.prog 13 #[] w fun e w' => e = .returned (.bool true) ∧ Below w.heap.size w w' := by
  obtain ⟨ans, Hans⟩ : ∃ x, Hd (Rec.hdr 22 2 ++ [1, 2] = x) := ⟨_, ⟨rfl⟩⟩
  have Lans := hd (show ans.length = 7 by rw [← Hans.out, List.length_append, Rec.hdr_len]; rfl)
  have Hans2 := hd (show ans = [22, 3, 3, 0, 2, 1, 2] by rw [← Hans.out]; unfold Rec.hdr; rfl)
  go_enter Try.func13, Try.ntmps13
  go_wp2_with fail
  refine (Rec.newWriter_any w).mono ?_
  rintro e W1 ⟨rfl, e1⟩
  have bw : Blk W1 w.heap.size 75 (Rec.wrc (.pointer none) 0) := by rw [e1]; exact Blk.nu rfl
  have hB1 : Below w.heap.size w W1 := by rw [e1]; exact (Below.refl _ _).alloc (Nat.le_refl _) _
  clear e1
  go_wp2_with fail
  refine (Rec.newReader_any W1).mono ?_
  rintro e W2 ⟨rfl, e2⟩
  obtain ⟨gr, Hgr⟩ : ∃ z, Hd (W1.heap.size = z) := ⟨_, ⟨rfl⟩⟩
  have br : Blk W2 gr 84 (Rec.rdc (.pointer none) (.slice none 0 0) 0 false 0) := by rw [e2]; exact Blk.nu Hgr.out.symm
  have hE2 : Below W1.heap.size W1 W2 := by rw [e2]; exact (Below.refl _ _).alloc (Nat.le_refl _) _
  have hgr : w.heap.size ≤ gr := by rw [← Hgr.out]; exact hB1.size
  have bw := bw.below hE2 bw.lt
  have hB2 := hB1.trans (hE2.mono hB1.size)
  clear hB1 hE2 e2
  rw [Hgr.out]
  have hl : Below W2.heap.size W2 (W2.alloc (.cells #[.int .u8 1, .int .u8 2] 5)) := (Below.refl _ _).alloc (Nat.le_refl _) _
  have bl : Blk (W2.alloc (.cells #[.int .u8 1, .int .u8 2] 5)) W2.heap.size 5 (arr [1, 2]) := Blk.nu rfl
  have hrl : ReadsB (W2.alloc (.cells #[.int .u8 1, .int .u8 2] 5)) (W2.alloc (.cells #[.int .u8 1, .int .u8 2] 5)).heap.size (some ⟨W2.heap.size, 0, none⟩) 2 [1, 2] := Cha.blk_reads bl rfl bl.lt
  go_wp2_with fail
  refine (Rec.write_plain 0 w.heap.size 22 (some ⟨W2.heap.size, 0, none⟩) 2 2 [1, 2] 9 _ (bw.below hl bw.lt) hrl (Nat.le_refl _) (by omega) (by omega)).mono ?_
  rintro e W3 ⟨v, rfl, own, hE3⟩
  rw [Hans.out] at own
  have hB3 := hB2.trans ((hl.trans (hE3.mono hl.size)).mono hB2.size)
  have br := br.below (hl.trans (hE3.mono hl.size)) br.lt
  clear bw hB2 hl bl hrl
  obtain ⟨A, c, ev⟩ := own.slice
  rw [Lans.out] at ev
  subst ev
  have hrd : ReadsB W3 W3.heap.size A 7 ans := own.reads_any.2
  have hroom := own.room
  have Hs := hd (run_toString (P := Try.prog) Try.underlying24 Try.underlying5 Try.underlying9 _ A 7 c ans hrd)
  go_wp2_with (first
    | (refine wpl_run (o := ⟨some 24, _, _, _, _, _⟩) (by simp [Region.wanted, yielded, Act.put]) (.bool true) (run_eqT (by rfl) ans [22, 3, 3, 0, 2, 1, 2] Hans2.out (by simp [Act.eval, Act.put]) (by rfl) _) ?_)
    | rw [Hs.out]
    | (go_at_call 23; refine (Rec.feed_any gr (.pointer none) none 0 [] 0 0 false A 7 c ans 7 _ br (OwnB.nil _ _) hrd hroom (by omega) rfl (by omega) rfl).mono ?_; rintro e W4 ⟨rfl, A', c', br4, own4, mv4, at4⟩; have hB4 := mv4.below hB3 hgr (by intro g e; cases e) hB3.size))
  go_ret
  exact ⟨rfl, hB4⟩
end Go.Proofs.Ytbcboldepghgpaa
