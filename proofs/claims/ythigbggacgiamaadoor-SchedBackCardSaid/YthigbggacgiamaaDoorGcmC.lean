/-
  The walk of Galois counter mode's hash.
-/
import Derived.Test.YthigbggacgiamaaDoorGcmB
import Derived.Laws.CopyOwn
set_option linter.unusedVariables false
set_option linter.unusedSimpArgs false
set_option maxRecDepth 100000
namespace Go.Proofs.YthigbggacgiamaaDoor
open Go.RowKit
namespace Gcm
def xor2 (x y : UInt64 × UInt64) : UInt64 × UInt64 := (x.1 ^^^ y.1, x.2 ^^^ y.2)
/-- One block taken in. -/
def absorb (key out x : UInt64 × UInt64) : UInt64 × UInt64 := times (xor2 out x) key
/-- The first sixteen bytes, filled up with noughts. -/
def pad16 (l : List UInt8) : List UInt8 := l.take 16 ++ List.replicate (16 - (l.take 16).length) 0
theorem pad16_len (l : List UInt8) : (pad16 l).length = 16 := by
  rw [pad16, List.length_append, List.length_replicate, List.length_take]; omega
def feedF (key : UInt64 × UInt64) : Nat → List UInt8 → UInt64 × UInt64 → UInt64 × UInt64
  | 0, _, out => out
  | f + 1, l, out => if l = [] then out else feedF key f (l.drop 16) (absorb key out (of (pad16 l)))
def feed (key : UInt64 × UInt64) (l : List UInt8) (out : UInt64 × UInt64) : UInt64 × UInt64 := feedF key l.length l out
theorem feedF_any (key : UInt64 × UInt64) : ∀ (f : Nat) (l : List UInt8) (out : UInt64 × UInt64) (g : Nat), l.length ≤ f → l.length ≤ g → feedF key f l out = feedF key g l out
  | 0, l, out, g, hf, _ => by
    have : l = [] := List.eq_nil_of_length_eq_zero (by omega)
    subst this
    cases g <;> simp [feedF]
  | f + 1, l, out, g, hf, hg => by
    by_cases h : l = []
    · subst h; cases g <;> simp [feedF]
    · have hl : 0 < l.length := List.length_pos_iff.2 h
      obtain ⟨g, rfl⟩ : ∃ k, g = k + 1 := ⟨g - 1, by omega⟩
      rw [feedF, if_neg h, feedF, if_neg h]
      exact feedF_any key f _ _ g (by rw [List.length_drop]; omega) (by rw [List.length_drop]; omega)
theorem feed_nil (key out : UInt64 × UInt64) : feed key [] out = out := rfl
theorem feed_step (key : UInt64 × UInt64) (l : List UInt8) (out : UInt64 × UInt64) (h : l ≠ []) : feed key l out = feed key (l.drop 16) (absorb key out (of (pad16 l))) := by
  have hl : 0 < l.length := List.length_pos_iff.2 h
  obtain ⟨f, hf⟩ : ∃ k, l.length = k + 1 := ⟨l.length - 1, by omega⟩
  rw [feed, hf, feedF, if_neg h, feed]
  exact feedF_any key f _ _ _ (by rw [List.length_drop]; omega) (Nat.le_refl _)
/-- How many bits. -/
def bits (l : List UInt8) : UInt64 := UInt64.ofNat l.length * 8
def hash2 (key : UInt64 × UInt64) (aside text : List UInt8) : UInt64 × UInt64 := absorb key (feed key text (feed key aside (0, 0))) (bits aside, bits text)
def hash (h aside text : List UInt8) : List UInt8 := bytes (hash2 (of h) aside text)
theorem hash_len (h aside text : List UInt8) : (hash h aside text).length = 16 := bytes_len _
attribute [irreducible] feed hash2
end Gcm
theorem enter_hash1 (args : Array Value) (w : World) : (callFunc 70 args).run Tryd.prog w = .ok (.enter 70 args) w := by kernel_rfl
theorem grew_below {w W w' : World} {z : Nat} (h : w.grownBy W (some z)) (hb : Below W.heap.size W w') : w.grownBy w' (some z) :=
  ⟨hb.os.trans h.os, hb.tape.trans h.tape, hb.output.trans h.output, Nat.le_trans h.size hb.size, fun i hi hne => (hb.block i (Nat.lt_of_lt_of_le hi h.size)).trans (h.block i hi hne)⟩
set_option maxHeartbeats 2000000 in
set_option maxRecDepth 100000 in
theorem hash1_any (o k : Nat) (x out key : UInt64 × UInt64) (w : World) (ho : Blk w o 138 (cells2 out)) (hk : Blk w k 138 (cells2 key)) (hne : o ≠ k) :
    Calls Tryd.prog 70 #[.agg (cells2 x), .pointer (some ⟨o, 0, none⟩), .pointer (some ⟨k, 0, none⟩)] w fun e w' => e = .returned (.tuple #[]) ∧ Blk w' o 138 (cells2 (Gcm.absorb key out x)) ∧ w.grownBy w' (some o) := by
  have holt := ho.lt
  have hklt := hk.lt
  obtain ⟨r, Hr⟩ : ∃ r, Hd (Gcm.absorb key out x = r) := ⟨_, ⟨rfl⟩⟩
  rw [Hr.out]
  go_enter Tryd.func70, Tryd.ntmps70
  have h0 : Blk (w.alloc (.cells (cells2 x) 138)) w.heap.size 138 (cells2 x) ∧ Blk (w.alloc (.cells (cells2 x) 138)) o 138 (cells2 out) ∧ Blk (w.alloc (.cells (cells2 x) 138)) k 138 (cells2 key) ∧ w.grownBy (w.alloc (.cells (cells2 x) 138)) (some o) :=
    ⟨Blk.nu rfl, ho.alloc _, hk.alloc _, grew_alloc (World.grownBy.refl w (some o)) _⟩
  have Hlt := hd (And.intro holt hklt)
  clear ho hk
  obtain ⟨z, Hz⟩ : ∃ z, Hd (w.heap.size = z) := ⟨_, ⟨rfl⟩⟩
  rw [Hz.out] at Hlt
  have n1 : ¬ z = o := by have := Hlt.out; omega
  go_wp2_with (refine wpl_name (fun wo => Blk wo w.heap.size 138 (cells2 x) ∧ Blk wo o 138 (cells2 out) ∧ Blk wo k 138 (cells2 key) ∧ w.grownBy wo (some o)) h0 ?_; clear h0; rintro wo ⟨b0, b1, b2, hg⟩; rw [Hz.out] at b0 ⊢; have c00 := b0.hi; have c01 := b0.lo; have c10 := b1.hi; have c11 := b1.lo; have f10 := b1.frozen 0; have f11 := b1.frozen 1; have c20 := b2.hi; have c21 := b2.lo)
  refine (times64_any (Gcm.xor2 out x) key _).mono ?_
  rintro e w5 ⟨rfl, hB5⟩
  have b3 : Blk ((wo.setCell ⟨o, 0, none⟩ (.int .u64 (n64 (out.1 ^^^ x.1)))).setCell ⟨o, 1, none⟩ (.int .u64 (n64 (out.2 ^^^ x.2)))) o 138 (cells2 (Gcm.xor2 out x)) := (b1.set0 _).set1 _
  have hg3 := grew_setCell (grew_setCell hg 0 (.int .u64 (n64 (out.1 ^^^ x.1)))) 1 (.int .u64 (n64 (out.2 ^^^ x.2)))
  have b4 := b3.below hB5 b3.lt
  have hg4 := grew_below hg3 hB5
  clear b0 b1 b2 c00 c01 c10 c11 f10 f11 c20 c21 hB5 hg b3 hg3
  rw [show Gcm.times (Gcm.xor2 out x) key = r from Hr.out]
  go_wp2_with (refine wpl_store_blk rfl _ _ rfl o r rfl rfl 138 _ b4 ?_)
  go_end0
  exact ⟨rfl, b4.setRow _, grew_setRow hg4 _⟩
theorem u8_one : (Tryd.prog.info? 5).map (·.size) = some 1 := by kernel_rfl
section
variable {w : World} {ops : Array Oper} {rest : List Oper} {o : Oper} {a : Act} {Q : Exit → Act → World → Prop}
/-- Bytes copied to a block's beginning. -/
theorem wpl_copyB (hgd : o.guard = none) (d s : Operand) (ho : o.op = .call { callee := .builtin .copy, args := #[d, s], argTypes := #[30, 30] })
    (g : Nat) (t : TypeId) (dst : List UInt8) (k kc : Nat) (hd : a.eval d = .slice (some ⟨g, 0, none⟩) k kc) (hdl : dst.length = k) (hb : Blk w g t (arr dst)) (B : Nat) (A : Option Addr) (n c : Nat) (l : List UInt8) (hs : a.eval s = .slice A n c) (hr : ReadsB w B A n l) (hn : 0 < n)
    (h : wpList Tryd.prog ops Q rest (a.put o.dst (.int .i64 ((min n k : Nat) : Int))) (w.setRow g (arr (l.take k ++ dst.drop (min n k))))) : wpList Tryd.prog ops Q (o :: rest) a w := by
  obtain ⟨ad, hA, _, hc⟩ := hr.is.2 hn
  subst hA
  have hlen : ((l.take k).map U8).length = Nat.min n k := by rw [List.length_map, List.length_take, hr.len]; exact Nat.min_comm _ _
  have hrun := run_copy_row (P := Tryd.prog) w 30 30 o.type 5 g 0 k kc ad n c (arr dst) t ((l.take k).map U8) Tryd.underlying30 u8_one hb.is hlen
    (fun j v hv => hc j v (by rw [List.getElem?_map] at hv ⊢; rw [List.getElem?_take] at hv; split at hv; exact hv; cases hv)) (by rw [hlen, arr_size, hdl]; have : Nat.min n k ≤ k := Nat.min_le_right _ _; omega) (by intro v hv; obtain ⟨x, _, rfl⟩ := List.mem_map.1 hv; rfl)
  refine wpList_plain hgd fun K hK => ?_
  unfold Oper.wp execOp
  simp only [ho, resolve, invoke, builtin, Sem.run_bind, Sem.run_pure, Result.andThen_ok, List.map_toArray, List.map_cons, List.map_nil, hd, hs, hrun]
  have e1 : goInt ((l.take k).map U8).length = .int .i64 ((min n k : Nat) : Int) := by rw [hlen]; rfl
  have e2 : ((arr dst).toList.take 0 ++ (l.take k).map U8 ++ (arr dst).toList.drop (0 + ((l.take k).map U8).length)).toArray = arr (l.take k ++ dst.drop (min n k)) := by
    rw [hlen, List.take_zero, List.nil_append, Nat.zero_add]
    show ((l.take k).map U8 ++ ((dst.map U8).toArray.toList).drop (Nat.min n k)).toArray = ((l.take k ++ dst.drop (min n k)).map U8).toArray
    rw [List.map_append, ← List.map_drop]
  rw [e1, e2]
  exact hK _ _ h
end
theorem pad16_copy (l : List UInt8) (n : Nat) (hl : l.length = n) : l.take 16 ++ (List.replicate 16 (0 : UInt8)).drop (min n 16) = Gcm.pad16 l := by
  rw [Gcm.pad16, List.drop_replicate, List.length_take, hl, Nat.min_comm n 16]
end Go.Proofs.YthigbggacgiamaaDoor
