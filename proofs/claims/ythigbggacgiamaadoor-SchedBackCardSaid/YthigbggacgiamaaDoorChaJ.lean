/-
  The walk of chacha's tag.
-/
import Derived.Test.YthigbggacgiamaaDoorChaI
import Derived.Test.YthigbggacgiamaaDoorJa
set_option linter.unusedVariables false
set_option linter.unusedSimpArgs false
set_option maxRecDepth 100000
namespace Go.Proofs.YthigbggacgiamaaDoor
open Go.RowKit
/-- append(s, make([]byte, 0)...) onto a slice of no bytes. -/
theorem run_append00 (w : World) (ty : TypeId) (B : Nat) (v : Value) (hown : OwnB w B v []) :
    ∃ v' w', (Builtin.append_ #[30, 3] ty #[v, .int .i64 0]).run Tryd.prog w = .ok v' w' ∧ OwnB w' B v' [] ∧ w.grownBy w' v.ownBlock ∧ (v'.ownBlock = v.ownBlock ∨ v'.ownBlock = some w.heap.size) := by
  obtain ⟨i, hi, hz, hs, hb⟩ := info_parts u8_info
  have ht := Tryd.underlying30
  have htn := Tryd.underlying3
  have hw0 : IntKind.i64.wrap 0 = 0 := IntWalk.i64_in _ (by omega)
  have ho := hown
  obtain ⟨hx, h2⟩ := hown.own
  rcases h2 with ⟨rfl, h⟩ | ⟨g, cap, cur, rfl, hg, hh, hnc, hcm, hcs, htake⟩
  · refine ⟨.slice none 0 0, w, ?_, ho, World.grownBy.refl _ _, .inl rfl⟩
    simp [Builtin.append_, run_underlying ht, run_underlying htn, sizeOf, typeInfo, zeroValue, hi, hz, hs, hb, asInt, asIntOf, hw0]
  · refine ⟨.slice (some ⟨g, 0, none⟩) 0 cap, w, ?_, ho, World.grownBy.refl _ _, .inl rfl⟩
    simp [Builtin.append_, run_underlying ht, run_underlying htn, sizeOf, typeInfo, zeroValue, hi, hz, hs, hb, asInt, asIntOf, hw0, hnc, Addr.add_lit]
    rfl
namespace Cha
def padN (n : Nat) : Nat := (16 - n % 16) % 16
def pad (n : Nat) : List UInt8 := List.replicate (padN n) 0
theorem and15 (n : Nat) (h : n ≤ 140737488355328) : bits .and .i64 (-(n : Int)) 15 = ((padN n : Nat) : Int) := by
  have e1 : BitVec.ofInt 64 (-(n : Int)) = BitVec.ofNat 64 (18446744073709551616 - n) := by
    rw [show (-(n : Int)) = ((18446744073709551616 - n : Nat) : Int) - 18446744073709551616 by omega, bv_ofInt_sub]
    rw [show BitVec.ofInt 64 18446744073709551616 = 0#64 by decide, BitVec.sub_zero, BitVec.ofInt_natCast]
  have e2 : (BitVec.ofInt 64 (-(n : Int)) &&& BitVec.ofInt 64 15).toNat = padN n := by
    rw [e1, BitVec.toNat_and, BitVec.toNat_ofNat, show (BitVec.ofInt 64 15).toNat = 2 ^ 4 - 1 by decide, Nat.and_two_pow_sub_one_eq_mod]
    unfold padN
    omega
  show IntKind.i64.wrap (((BitVec.ofInt 64 (-(n : Int)) &&& BitVec.ofInt 64 15).toNat : Nat) : Int) = _
  rw [e2]
  exact IntWalk.i64_in _ (by unfold padN; omega)
def le8To (x : UInt64) (k : Nat) : List UInt8 := (List.range k).map fun i => (shr64 x (8 * i)).toUInt8
def le8 (x : UInt64) : List UInt8 := le8To x 8
theorem le8To_len (x : UInt64) (k : Nat) : (le8To x k).length = k := by simp [le8To]
theorem le8To_next (x : UInt64) (k : Nat) : le8To x (k + 1) = le8To x k ++ [(shr64 x (8 * k)).toUInt8] := by
  unfold le8To
  rw [List.range_succ, List.map_append]
  rfl
def tagged (a m : List UInt8) : List UInt8 := a ++ pad a.length ++ m ++ pad m.length ++ le8 (UInt64.ofNat a.length) ++ le8 (UInt64.ofNat m.length)
def tag (key nonce a m : List UInt8) : List UInt8 := poly ((block key 0 nonce).take 32) (tagged a m)
theorem pad_len (n : Nat) : (pad n).length = padN n := by simp [pad]
theorem padN_lt (n : Nat) : padN n < 16 := Nat.mod_lt _ (by decide)
theorem tag_len (key nonce a m : List UInt8) : (tag key nonce a m).length = 16 := poly_len _ _
section
variable {P : Program} {w : World} {o : Oper} {ρ : Operand → Value} {x y : Operand} {t rt : TypeId}
theorem run_lenU (ho : o.op = .convert 3 31 x) (n : Nat) (hn : n ≤ 140737488355328) (hx : ρ x = .int .i64 (n : Int)) : (execOp ρ o).run Tryd.prog w = .ok (.value (.int .u64 ((n64 (UInt64.ofNat n) : Nat) : Int))) w := by
  have e : IntKind.u64.wrap (n : Int) = ((n64 (UInt64.ofNat n) : Nat) : Int) := by
    rw [wrap_n64, BitVec.ofInt_natCast]; rfl
  unfold execOp
  simp only [ho, hx]
  simp [go_sem, Tryd.underlying3, Tryd.underlying31, e]
end
section
variable {w : World} {ops : Array Oper} {rest : List Oper} {o : Oper} {a : Act} {Q : Exit → Act → World → Prop}
theorem wpl_pad (hgd : o.guard = none) (s x : Operand) (ho : o.op = .call { callee := .builtin .append, args := #[s, x], argTypes := #[30, 3] })
    (B : Nat) (v : Value) (l : List UInt8) (hs : a.eval s = v) (hown : OwnB w B v l) (k : Nat) (hx : a.eval x = .int .i64 k) (h0 : 0 < l.length ∨ k = 0)
    (hlen : l.length + k ≤ 140737488355328) (hB : B ≤ w.heap.size)
    (h : ∀ v' w', OwnB w' B v' (l ++ List.replicate k 0) → w.grownBy w' v.ownBlock → (v'.ownBlock = v.ownBlock ∨ v'.ownBlock = some w.heap.size) → wpList Tryd.prog ops Q rest (a.put o.dst v') w') : wpList Tryd.prog ops Q (o :: rest) a w := by
  by_cases hl : 0 < l.length
  · exact wpl_append0 hgd s x ho B v l hs hown k hx hl hlen hB h
  · have e : l = [] := List.eq_nil_of_length_eq_zero (by omega)
    have ek : k = 0 := h0.resolve_left hl
    subst e
    subst ek
    obtain ⟨v', w', hrun, h1, h2, h3⟩ := run_append00 w o.type B v hown
    exact Lib.wpList_append_run w hgd s x _ _ ho _ _ hs hx v' w' hrun (h v' w' h1 h2 h3)
end
/-- What tag's walk holds. -/
structure Tg (w : World) (key nonce l : List UInt8) (v : Value) (W : World) : Prop where
  bk : Blk W w.heap.size 23 (arr key)
  bn : Blk W (w.heap.size + 1) 27 (arr nonce)
  own : OwnB W w.heap.size v l
  old : Below w.heap.size w W
section
variable {w W W' : World} {key nonce l l' : List UInt8} {v v' : Value}
theorem Tg.app (h : Tg w key nonce l v W) (ho : OwnB W' w.heap.size v' l') (hg : W.grownBy W' v.ownBlock) : Tg w key nonce l' v' W' :=
  ⟨h.bk.appended h.own hg (by decide), h.bn.appended h.own hg (by decide), ho, below_appended h.old h.own hg (Nat.le_refl _) h.old.size⟩
theorem Tg.next (h : Tg w key nonce l v W) (hb : Below W.heap.size W W') : Tg w key nonce l v W' :=
  ⟨h.bk.below hb h.bk.lt, h.bn.below hb h.bn.lt, h.own.later hb, h.old.trans (hb.mono h.old.size)⟩
end
end Cha
end Go.Proofs.YthigbggacgiamaaDoor
