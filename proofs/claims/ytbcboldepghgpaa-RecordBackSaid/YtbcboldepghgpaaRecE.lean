/-
  The walks of record's Write without a key, or with a full one.
-/
import Derived.Test.YtbcboldepghgpaaRecD
set_option linter.unusedVariables false
set_option linter.unusedSimpArgs false
set_option maxRecDepth 100000
namespace Go.Proofs.Ytbcboldepghgpaa
open Go.RowKit
set_option maxHeartbeats 8000000 in
set_option maxRecDepth 100000 in
theorem Rec.write_full (n0 : Nat) (s : UInt16) (hs : Suite.Ok s n0) (A : Option Addr) (c : Nat) (key iv : List UInt8) (hk : key.length = n0) (seq lim : UInt64) (gw gl : Nat) (t : UInt8) (D : Option Addr) (n d : Nat) (b : List UInt8) (pad : Nat) (w : World)
    (hw : Blk w gw 75 (Rec.wrc (.pointer (some ⟨gl, 0, none⟩)) lim)) (hl : Rec.LkK w gl s A c key iv seq) (hb : ReadsB w w.heap.size D n b) (hnd : n ≤ d) (hn : n ≤ 16384) (hp : pad ≤ 255) (hleft : lim - seq = 0) :
    Calls Try.prog 18 #[.pointer (some ⟨gw, 0, none⟩), .int .u8 ((n8 t : Nat) : Int), .slice D n d, .int .i64 (pad : Int)] w fun e w' => e = .returned (.tuple #[.slice none 0 0, .int .i64 182]) ∧ Below w.heap.size w w' := by
  have Hs := hd hs
  have Hk := hd hk
  have Hleft := hd hleft
  have hD : D = none → n = 0 := fun e => by
    rcases Nat.eq_zero_or_pos n with h | h
    · exact h
    · obtain ⟨ad, e2, _⟩ := hb.is.2 h; rw [e] at e2; cases e2
  have HD := hd hD
  have Hsz := hd (show n ≤ 16384 ∧ pad ≤ 255 from ⟨hn, hp⟩)
  clear hs hk hD
  obtain ⟨m1, e1, v1⟩ : ∃ m : Nat, (n : Int) + 16384 = (m : Int) ∧ m = n + 16384 := ⟨n + 16384, by omega, rfl⟩
  obtain ⟨m2, e2, v2⟩ : ∃ m : Nat, (m1 : Int) - 1 = (m : Int) ∧ m = n + 16383 := ⟨n + 16383, by omega, rfl⟩
  obtain ⟨q, e3, v3⟩ : ∃ m : Nat, (m2 : Int) / 16384 = (m : Int) ∧ m ≤ 1 := ⟨m2 / 16384, by omega, by omega⟩
  have Hq := hd v3
  have i1 : IntKind.i64.wrap (m1 : Int) = (m1 : Int) := IntWalk.i64_in _ (by omega)
  have i2 : IntKind.i64.wrap (m2 : Int) = (m2 : Int) := IntWalk.i64_in _ (by omega)
  have i3 : IntKind.i64.wrap (q : Int) = (q : Int) := IntWalk.i64_in _ (by omega)
  clear v1 v2 v3
  have t1 : ¬ (65536 : Int) < (n : Int) := by omega
  have t2 : ¬ (pad : Int) < 0 := by omega
  have t3 : ¬ (255 : Int) < (pad : Int) := by omega
  have hwr : Rec.WrAt w 0 gw gl s key iv seq lim := ⟨hw, ⟨⟨A, c, hl.blk, hl.own⟩, hl.iv12, Nat.zero_le _⟩, Nat.zero_le _⟩
  obtain ⟨lf, Hlf⟩ : ∃ x, Hd (lim - seq = x) := ⟨_, ⟨rfl⟩⟩
  have hlf : lf = 0 := by rw [← Hlf.out]; exact Hleft.out
  subst hlf
  go_enter Try.func18, Try.ntmps18
  go_wp2_with (first
    | (refine wpl_run (o := ⟨some 18, _, _, _, _, _⟩) (wanted_plain rfl) (.int .i64 1) (Rec.run_maxI (by rfl) 1 (q : Int) 1 (by simp [Act.eval, Act.put]) (by simp [Act.eval, Act.put]) (by have := Hq.out; omega)) ?_)
    | (go_at_call 19; refine (Rec.left_any 0 gw gl s key iv seq lim _ hwr).mono ?_; rintro e W1 ⟨rfl, hE1⟩; rw [Hlf.out]; have hw1 := hw.below hE1 hw.lt; have hl1 := hl.next hE1; have hb1 : ReadsB W1 W1.heap.size D n b := hb.onward hE1))
  go_ret2
  exact ⟨rfl, hE1⟩
set_option maxHeartbeats 4000000 in
set_option maxRecDepth 100000 in
theorem Rec.put_plain (lim : UInt64) (gw : Nat) (t : UInt8) (D : Option Addr) (n d : Nat) (b : List UInt8) (pad : Nat) (w : World)
    (hw : Blk w gw 75 (Rec.wrc (.pointer none) lim)) (hb : ReadsB w w.heap.size D n b) (hn : n ≤ 16384) :
    Calls Try.prog 38 #[.pointer (some ⟨gw, 0, none⟩), .slice none 0 0, .int .u8 ((n8 t : Nat) : Int), .slice D n d, .int .i64 (pad : Int)] w fun e w' => ∃ v, e = .returned v ∧ OwnB w' w.heap.size v (Rec.hdr t n ++ b) ∧ Below w.heap.size w w' := by
  have c0 : w.cell? ⟨gw, 0, none⟩ = some (.pointer none) := hw.cell 0
  have Hb := hd hb.len
  obtain ⟨head, Hh⟩ : ∃ x, Hd (Rec.hdr t n = x) := ⟨_, ⟨rfl⟩⟩
  have Lh := hd (show head.length = 5 by rw [← Hh.out]; exact Rec.hdr_len _ _)
  rw [Hh.out]
  have l5 : ([] : List UInt8).length + head.length ≤ 140737488355328 := by rw [Lh.out]; simp
  have l6 : head.length + b.length ≤ 140737488355328 := by rw [Lh.out, Hb.out]; omega
  go_enter Try.func38, Try.ntmps38
  go_wp2_with fail
  refine (Rec.begun_any t n (by omega) _).mono ?_
  rintro e W1 ⟨rfl, own1, hE1⟩
  rw [Hh.out] at own1
  have hr1 : ReadsB W1 W1.heap.size (some ⟨w.heap.size, 0, none⟩) 5 head := own1.reads_any.2
  have hs1 := hE1.size
  go_wp2_with (first
    | (at_builtin; refine wpl_appendB rfl _ _ rfl w.heap.size v9 head rfl own9 w.heap.size D n d b rfl hb9 l6 hB9.size ?_; intro v10 W10 own10 gr10 at10; have hB10 := below_appended hB9 own9 gr10 (Nat.le_refl _) hB9.size)
    | (at_builtin; refine wpl_appendB rfl _ _ rfl w.heap.size (.slice none 0 0) [] rfl (OwnB.nil _ _) W1.heap.size (some ⟨w.heap.size, 0, none⟩) 5 5 head rfl hr1 l5 hs1 ?_; intro v9 W9 own9 gr9 at9; rw [List.nil_append] at own9; have hB9 := below_new hE1 gr9 hs1; have hb9 : ReadsB W9 w.heap.size D n b := ⟨hb.len, hb.is.below hB9⟩))
  go_ret
  exact ⟨v10, rfl, own10, hB10⟩
set_option maxHeartbeats 8000000 in
set_option maxRecDepth 100000 in
theorem Rec.write_plain (lim : UInt64) (gw : Nat) (t : UInt8) (D : Option Addr) (n d : Nat) (b : List UInt8) (pad : Nat) (w : World)
    (hw : Blk w gw 75 (Rec.wrc (.pointer none) lim)) (hb : ReadsB w w.heap.size D n b) (hnd : n ≤ d) (hn : n ≤ 16384) (hp : pad ≤ 255) :
    Calls Try.prog 18 #[.pointer (some ⟨gw, 0, none⟩), .int .u8 ((n8 t : Nat) : Int), .slice D n d, .int .i64 (pad : Int)] w fun e w' => ∃ v, e = .returned (.tuple #[v, .int .i64 0]) ∧ OwnB w' w.heap.size v (Rec.hdr t n ++ b) ∧ Below w.heap.size w w' := by
  have hD : D = none → n = 0 := fun e => by
    rcases Nat.eq_zero_or_pos n with h | h
    · exact h
    · obtain ⟨ad, e2, _⟩ := hb.is.2 h; rw [e] at e2; cases e2
  have HD := hd hD
  have Hsz := hd (show n ≤ 16384 ∧ pad ≤ 255 from ⟨hn, hp⟩)
  clear hD
  obtain ⟨m1, e1, v1⟩ : ∃ m : Nat, (n : Int) + 16384 = (m : Int) ∧ m = n + 16384 := ⟨n + 16384, by omega, rfl⟩
  obtain ⟨m2, e2, v2⟩ : ∃ m : Nat, (m1 : Int) - 1 = (m : Int) ∧ m = n + 16383 := ⟨n + 16383, by omega, rfl⟩
  obtain ⟨q, e3, v3⟩ : ∃ m : Nat, (m2 : Int) / 16384 = (m : Int) ∧ m ≤ 1 := ⟨m2 / 16384, by omega, by omega⟩
  have Hq := hd v3
  have i1 : IntKind.i64.wrap (m1 : Int) = (m1 : Int) := IntWalk.i64_in _ (by omega)
  have i2 : IntKind.i64.wrap (m2 : Int) = (m2 : Int) := IntWalk.i64_in _ (by omega)
  have i3 : IntKind.i64.wrap (q : Int) = (q : Int) := IntWalk.i64_in _ (by omega)
  clear v1 v2 v3
  have t1 : ¬ (65536 : Int) < (n : Int) := by omega
  have t2 : ¬ (pad : Int) < 0 := by omega
  have t3 : ¬ (255 : Int) < (pad : Int) := by omega
  go_enter Try.func18, Try.ntmps18
  go_wp2_with (first
    | (refine wpl_run (o := ⟨some 18, _, _, _, _, _⟩) (wanted_plain rfl) (.int .i64 1) (Rec.run_maxI (by rfl) 1 (q : Int) 1 (by simp [Act.eval, Act.put]) (by simp [Act.eval, Act.put]) (by have := Hq.out; omega)) ?_)
    | (go_at_call 19; refine (Rec.leftNone_any gw lim _ hw).mono ?_; rintro e W1 ⟨rfl, hE1⟩; have hw1 := hw.below hE1 hw.lt; have hb1 : ReadsB W1 W1.heap.size D n b := hb.onward hE1))
  refine wp_loop_rounds 2 ?_
  rw [rounds_succ]
  have emin : ((n : Nat) : Int) = min (n : Int) 16384 := by have := Hsz.out; omega
  have Hemin := hd emin
  clear emin
  go_wp2_with (first
    | (refine wpl_run (o := ⟨some 42, _, _, _, _, _⟩) (wanted_plain rfl) (.int .i64 (n : Int)) (Rec.run_minI (by rfl) (n : Int) 16384 (n : Int) (by simp [Act.eval, Act.put]) (by simp [Act.eval, Act.put]) Hemin.out) ?_))
  refine (Rec.put_plain lim gw t D n n b pad _ hw1 hb1 Hsz.out.1).mono ?_
  rintro e W2 ⟨v2, rfl, own2, hE2⟩
  have own2 := own2.low (B' := w.heap.size) hE1.size
  have hE3 := hE1.trans (hE2.mono hE1.size)
  obtain ⟨A2, HA2⟩ : ∃ x, Hd ((if d = n then D else D.map (·.add n)) = x) := ⟨_, ⟨rfl⟩⟩
  go_wp2_with (first
    | (refine wpl_run (o := ⟨some 54, _, _, _, _, _⟩) (wanted_plain rfl) (.slice A2 (n - n) (d - n)) (by rw [← HA2.out]; exact run_slice_from (by rfl) Try.underlying24 u8_cell1 D n d n (by simp [Act.eval, Act.put]) (by simp [Act.eval, Act.put]) (Nat.le_refl _) hnd) ?_))
  rw [rounds_succ]
  go_wp2
  go_ret2
  exact ⟨v2, rfl, own2, hE3⟩
/-- A reader's cells. -/
def Rec.rdc (L held : Value) (skip : Int) (quiet : Bool) (dead : Int) : Array Value := #[L, held, .int .i64 skip, .bool quiet, .int .i64 dead]
theorem Rec.newReader_any (w : World) : Calls Try.prog 34 #[] w fun e w' => e = .returned (.pointer (some ⟨w.heap.size, 0, none⟩)) ∧ w' = w.alloc (.cells (Rec.rdc (.pointer none) (.slice none 0 0) 0 false 0) 84) := by
  have hb : Try.prog.built 84 [] = some (Rec.rdc (.pointer none) (.slice none 0 0) 0 false 0) := by kernel_rfl
  go_enter Try.func34, Try.ntmps34
  go_wp2_with (refine wpl_build rfl 84 [] rfl [] rfl _ hb ?_)
  go_ret
  exact ⟨rfl, rfl⟩
end Go.Proofs.Ytbcboldepghgpaa
