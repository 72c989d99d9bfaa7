/-
  The walk of record's Write, of one record.
-/
import Derived.Test.YtbcboldepghgpaaRecC
set_option linter.unusedVariables false
set_option linter.unusedSimpArgs false
set_option maxRecDepth 100000
namespace Go.Proofs.Ytbcboldepghgpaa
open Go.RowKit
namespace Rec
section
variable {P : Program} {w : World} {o : Oper} {ρ : Operand → Value} {x y : Operand} {t rt : TypeId}
theorem run_maxI {ats : Array TypeId} (ho : o.op = .call { callee := .builtin .max, args := #[x, y], argTypes := ats }) (i j k : Int) (hx : ρ x = .int .i64 i) (hy : ρ y = .int .i64 j) (hk : k = max i j) : (execOp ρ o).run P w = .ok (.value (.int .i64 k)) w := by
  subst hk
  unfold execOp
  simp only [ho, resolve, invoke, builtin, List.map_toArray, List.map_cons, List.map_nil, hx, hy]
  by_cases h : j > i
  · simp [Builtin.max_, Builtin.max2, go_sem, h, Int.max_eq_right (Int.le_of_lt h)]
  · simp [Builtin.max_, Builtin.max2, go_sem, h, Int.max_eq_left (Int.not_lt.1 h)]
end
end Rec
set_option maxHeartbeats 8000000 in
set_option maxRecDepth 100000 in
theorem Rec.write_any (n0 : Nat) (s : UInt16) (hs : Suite.Ok s n0) (A : Option Addr) (c : Nat) (key iv : List UInt8) (hk : key.length = n0) (seq lim : UInt64) (gw gl : Nat) (t : UInt8) (D : Option Addr) (n d : Nat) (b : List UInt8) (pad : Nat) (w : World)
    (hw : Blk w gw 75 (Rec.wrc (.pointer (some ⟨gl, 0, none⟩)) lim)) (hl : Rec.LkK w gl s A c key iv seq) (hb : ReadsB w w.heap.size D n b) (hnd : n ≤ d) (hn : n ≤ 16384) (hp : pad ≤ 255) (hleft : 1 ≤ n64 (lim - seq)) (hg0 : gl < w.heap.size) :
    Calls Try.prog 18 #[.pointer (some ⟨gw, 0, none⟩), .int .u8 ((n8 t : Nat) : Int), .slice D n d, .int .i64 (pad : Int)] w fun e w' => ∃ v, e = .returned (.tuple #[v, .int .i64 0]) ∧ OwnB w' w.heap.size v (Rec.recOf s key iv seq t b pad) ∧ Rec.LkK w' gl s A c key iv (seq + 1) ∧ w.grownBy w' (some gl) := by
  have Hs := hd hs
  have Hk := hd hk
  have Hleft := hd hleft
  have hD : D = none → n = 0 := fun e => by
    rcases Nat.eq_zero_or_pos n with h | h
    · exact h
    · obtain ⟨ad, e2, _⟩ := hb.is.2 h; rw [e] at e2; cases e2
  have HD := hd hD
  have Hsz := hd (show n ≤ 16384 ∧ pad ≤ 255 from ⟨hn, hp⟩)
  clear hs hk hD
  obtain ⟨m1, e1, v1⟩ : ∃ m : Nat, (n : Int) + 16384 = (m : Int) ∧ m = n + 16384 := ⟨n + 16384, by omega, rfl⟩
  obtain ⟨m2, e2, v2⟩ : ∃ m : Nat, (m1 : Int) - 1 = (m : Int) ∧ m = n + 16383 := ⟨n + 16383, by omega, rfl⟩
  obtain ⟨q, e3, v3⟩ : ∃ m : Nat, (m2 : Int) / 16384 = (m : Int) ∧ m ≤ 1 := ⟨m2 / 16384, by omega, by omega⟩
  have Hq := hd v3
  have i1 : IntKind.i64.wrap (m1 : Int) = (m1 : Int) := IntWalk.i64_in _ (by omega)
  have i2 : IntKind.i64.wrap (m2 : Int) = (m2 : Int) := IntWalk.i64_in _ (by omega)
  have i3 : IntKind.i64.wrap (q : Int) = (q : Int) := IntWalk.i64_in _ (by omega)
  clear v1 v2 v3
  have t1 : ¬ (65536 : Int) < (n : Int) := by omega
  have t2 : ¬ (pad : Int) < 0 := by omega
  have t3 : ¬ (255 : Int) < (pad : Int) := by omega
  have hwr : Rec.WrAt w 0 gw gl s key iv seq lim := ⟨hw, ⟨⟨A, c, hl.blk, hl.own⟩, hl.iv12, Nat.zero_le _⟩, Nat.zero_le _⟩
  obtain ⟨lf, Hlf⟩ : ∃ x, Hd (lim - seq = x) := ⟨_, ⟨rfl⟩⟩
  have hlf : ¬ lf = 0 := by intro e; have h := Hleft.out; rw [Hlf.out, e] at h; exact absurd h (by decide)
  go_enter Try.func18, Try.ntmps18
  go_wp2_with (first
    | (refine wpl_run (o := ⟨some 18, _, _, _, _, _⟩) (wanted_plain rfl) (.int .i64 1) (Rec.run_maxI (by rfl) 1 (q : Int) 1 (by simp [Act.eval, Act.put]) (by simp [Act.eval, Act.put]) (by have := Hq.out; omega)) ?_)
    | (go_at_call 19; refine (Rec.left_any 0 gw gl s key iv seq lim _ hwr).mono ?_; rintro e W1 ⟨rfl, hE1⟩; rw [Hlf.out]; have hw1 := hw.below hE1 hw.lt; have hl1 := hl.next hE1; have hb1 : ReadsB W1 W1.heap.size D n b := hb.onward hE1))
  refine wp_loop_rounds 2 ?_
  rw [rounds_succ]
  have emin : ((n : Nat) : Int) = min (n : Int) 16384 := by have := Hsz.out; omega
  have Hemin := hd emin
  clear emin
  go_wp2_with (first
    | (refine wpl_run (o := ⟨some 42, _, _, _, _, _⟩) (wanted_plain rfl) (.int .i64 (n : Int)) (Rec.run_minI (by rfl) (n : Int) 16384 (n : Int) (by simp [Act.eval, Act.put]) (by simp [Act.eval, Act.put]) Hemin.out) ?_))
  refine (Rec.put_any n0 s Hs.out A c key iv Hk.out seq lim gw gl t D n b pad _ hw1 hl1 hb1 HD.out Hsz.out.1 Hsz.out.2).mono ?_
  rintro e W2 ⟨v2, rfl, own2, hl2, gr2⟩
  have own2 := own2.low (B' := w.heap.size) hE1.size
  have hg2 : w.grownBy W2 (some gl) := ⟨gr2.os.trans hE1.os, gr2.tape.trans hE1.tape, gr2.output.trans hE1.output, Nat.le_trans hE1.size gr2.size, fun i hi hne => (gr2.block i (Nat.lt_of_lt_of_le hi hE1.size) hne).trans (hE1.block i hi)⟩
  obtain ⟨A2, HA2⟩ : ∃ x, Hd ((if d = n then D else D.map (·.add n)) = x) := ⟨_, ⟨rfl⟩⟩
  go_wp2_with (first
    | (refine wpl_run (o := ⟨some 54, _, _, _, _, _⟩) (wanted_plain rfl) (.slice A2 (n - n) (d - n)) (by rw [← HA2.out]; exact run_slice_from (by rfl) Try.underlying24 u8_cell1 D n d n (by simp [Act.eval, Act.put]) (by simp [Act.eval, Act.put]) (Nat.le_refl _) hnd) ?_))
  rw [rounds_succ]
  go_wp2
  go_ret2
  exact ⟨v2, rfl, own2, hl2, hg2⟩
end Go.Proofs.Ytbcboldepghgpaa
