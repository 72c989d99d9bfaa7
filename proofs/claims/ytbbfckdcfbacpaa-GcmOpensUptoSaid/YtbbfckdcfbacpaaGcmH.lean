/-
  The walk of layer 8's live question.
-/
import Derived.Test.YtbbfckdcfbacpaaGcmG
set_option linter.unusedVariables false
set_option linter.unusedSimpArgs false
namespace Go.Proofs.Ytbbfckdcfbacpaa
open Go.RowKit
namespace Gcm
def headAnswer : List UInt8 := [88, 226, 252, 206, 250, 126, 48, 97, 54, 127, 29, 87, 164, 231, 69, 90]
theorem head_right : lock (Aes.keys (List.replicate 16 0)) (List.replicate 12 0) [] [] = headAnswer := by decide +kernel
end Gcm
theorem made_bytes (n : Nat) : (madeCells (Value.int .u8 0).cells (n * 1)).toList = (List.replicate n (0 : UInt8)).map U8 := by
  rw [Nat.mul_one, List.map_replicate]
  simp only [madeCells, Value.cells, Array.toList_map, Array.toList_range]
  have e : ∀ x : Nat, (#[Value.int .u8 0] : Array Value)[x % (#[Value.int .u8 0] : Array Value).size]! = U8 0 := fun x => by
    rw [show x % (#[Value.int .u8 0] : Array Value).size = 0 from Nat.mod_one x]; rfl
  rw [List.map_congr_left (fun x _ => e x), List.map_const', List.length_range]
section
variable {w : World} {o : Oper} {a : Act} {Q : Exit → Act → World → Prop} {ops : Array Oper} {rest : List Oper}
theorem run_makeB (w : World) {ρ : Operand → Value} {o : Oper} (l c : Operand) (ho : o.op = .makeSlice 22 l c) (base n : Nat) (hl : ρ l = .int .i64 (n : Int)) (hc : ρ c = .int .i64 (n : Int)) (hn : n ≤ 140737488355328) (hB : base ≤ w.heap.size) :
    ∃ w', (execOp ρ o).run Try.prog w = .ok (.value (.slice (some ⟨w.heap.size, 0, none⟩) n n)) w' ∧ OwnB w' base (.slice (some ⟨w.heap.size, 0, none⟩) n n) (List.replicate n 0) ∧ w.grownBy w' none := by
  obtain ⟨i0, hi0, hz0, hz1, hz2⟩ := info_parts u8_info
  obtain ⟨w', hrun, r1, r2⟩ := run_make_full (P := Try.prog) w base 22 5 i0 _ 1 Try.underlying22 hi0 hz0 hz1 .i64 .i64 n (by rw [hz2]; omega) (by unfold maxLen; omega) hB
  refine ⟨w', ?_, ⟨?_⟩, r2⟩
  · unfold execOp
    simp only [ho, hl, hc, Sem.run_bind, hrun, Result.andThen_ok]
    rfl
  · rw [List.length_replicate, ← made_bytes]; exact r1
theorem wpl_makeB (hgd : o.guard = none) (l c : Operand) (ho : o.op = .makeSlice 22 l c) (base n : Nat) (hl : a.eval l = .int .i64 (n : Int)) (hc : a.eval c = .int .i64 (n : Int)) (hn : n ≤ 140737488355328) (hB : base ≤ w.heap.size)
    (h : ∀ w', OwnB w' base (.slice (some ⟨w.heap.size, 0, none⟩) n n) (List.replicate n 0) → w.grownBy w' none → wpList Try.prog ops Q rest (a.put o.dst (.slice (some ⟨w.heap.size, 0, none⟩) n n)) w') : wpList Try.prog ops Q (o :: rest) a w :=
  wpList_plain hgd fun K hK => by
    obtain ⟨w', hrun, h1, h2⟩ := run_makeB w l c ho base n hl hc hn hB
    unfold Oper.wp
    rw [hrun]
    exact hK _ _ (h w' h1 h2)
end
theorem below_none {B : Nat} {a w w' : World} (h : Below B a w) (hg : w.grownBy w' none) (hs : B ≤ w.heap.size) : Below B a w' := h.grown hg hs (fun k hk => by cases hk)
theorem zero12 : Try.prog.built 46 [] = some (arr (List.replicate 12 0)) := by kernel_rfl
set_option maxHeartbeats 2000000 in
set_option maxRecDepth 100000 in
theorem head8_any (w : World) :
    Calls Try.prog 19 #[] w fun e w' => e = .returned (.bool true) ∧ Below w.heap.size w w' := by
  obtain ⟨K, HK⟩ : ∃ K, Hd (List.replicate 16 (0 : UInt8) = K) := ⟨_, ⟨rfl⟩⟩
  obtain ⟨N, HN⟩ : ∃ K, Hd (List.replicate 12 (0 : UInt8) = K) := ⟨_, ⟨rfl⟩⟩
  have HNl := hd (show N.length = 12 by rw [← HN.out]; exact List.length_replicate)
  obtain ⟨ans, Hans⟩ : ∃ a, Hd (Gcm.headAnswer = a) := ⟨_, ⟨rfl⟩⟩
  have Hr := hd (show Gcm.lock (Aes.keys K) N [] [] = ans by rw [← HK.out, ← HN.out, ← Hans.out]; exact Gcm.head_right)
  have hb12 : Try.prog.built 46 [] = some (arr N) := by rw [← HN.out]; exact zero12
  have Hstr := hd (show (Value.string { data := #[88, 226, 252, 206, 250, 126, 48, 97, 54, 127, 29, 87, 164, 231, 69, 90] }) = .string (str ans) by rw [← Hans.out]; rfl)
  go_enter Try.func19, Try.ntmps19
  go_wp2_with (first | (refine wpl_makeB rfl _ _ rfl w.heap.size 16 rfl rfl (by omega) (Nat.le_refl _) ?_; intro w1 own1 gr1; rw [HK.out] at own1) | (refine wpl_build rfl 46 [] rfl [] rfl (arr N) hb12 ?_))
  have hr1 := own1.reads_any.2
  have hB1 := below_none (Below.refl w.heap.size w) gr1 (Nat.le_refl _)
  refine (lock_made _ 16 16 K N HNl.out none 0 0 [] none 0 0 [] _ hr1 (.inl rfl) ⟨rfl, Reads.none_⟩ (Nat.le_refl _) (by omega) ⟨rfl, Reads.none_⟩ (by omega)).mono ?_
  rintro e w2 ⟨v, rfl, own2, hB2⟩
  rw [Hr.out] at own2
  obtain ⟨A2, c2, e2⟩ := own2.slice
  subst e2
  have Hs := hd (run_toString (P := Try.prog) Try.underlying22 Try.underlying5 Try.underlying9 _ A2 _ c2 ans own2.reads_any.2)
  have hB3 := hB1.trans (hB2.mono hB1.size)
  clear own1 gr1 hr1 hB1 own2 hB2
  have hq0 : (str ans).toList = [88, 226, 252, 206, 250, 126, 48, 97, 54, 127, 29, 87, 164, 231, 69, 90] := by rw [← Hans.out, str, ByteArray.toList_mk]; rfl
  have Hbq := hd (show ((str ans).toList == [88, 226, 252, 206, 250, 126, 48, 97, 54, 127, 29, 87, 164, 231, 69, 90]) = true from beq_iff_eq.2 hq0)
  have hq : ((str ans).toList = [88, 226, 252, 206, 250, 126, 48, 97, 54, 127, 29, 87, 164, 231, 69, 90]) = True := eq_true hq0
  clear hq0
  go_wp2_with (first | rw [Hs.out])
  go_ret
  exact ⟨congrArg (fun x => Ending.returned (.bool x)) Hbq.out, hB3⟩
end Go.Proofs.Ytbbfckdcfbacpaa
