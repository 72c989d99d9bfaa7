/-
  More on slices of bytes: kept in later worlds, cut.
-/
import Derived.Test.YtncaplplkfihgaaGreatDoorStr
import Derived.Deep.RegionLaw
set_option linter.unusedVariables false
set_option linter.unusedSimpArgs false
set_option maxRecDepth 100000
namespace Go.Proofs.YtncaplplkfihgaaGreatDoor
open Go.RowKit
theorem wrap_u32_nat (k : Nat) : IntKind.u32.wrap (k : Int) = ((n32 (UInt32.ofNat k) : Nat) : Int) := by
  rw [wrap_n32, BitVec.ofInt_natCast]; rfl
theorem OwnB.later {w w' : World} {B : Nat} {v : Value} {l : List UInt8} (h : OwnB w B v l) (hb : Below w.heap.size w w') : OwnB w' B v l := by
  have hg : w.grownBy w' (some w.heap.size) := ⟨hb.os, hb.tape, hb.output, hb.size, fun i hi _ => hb.block i hi⟩
  refine h.moved hg ?_
  rcases h.size with h1 | ⟨g', h1, _, h2⟩
  · rw [h1]; intro e; cases e
  · rw [h1]; intro e; injection e; omega
theorem ReadsB.drew {w : World} {B : Nat} {A : Option Addr} {n : Nat} {l : List UInt8} (h : ReadsB w B A n l) : ReadsB w.drew B A n l := ⟨h.len, h.is.drew⟩
theorem ReadsB.take {w : World} {B : Nat} {A : Option Addr} {n k : Nat} {l : List UInt8} (h : ReadsB w B A n l) (hk : k ≤ n) : ReadsB w B A k (l.take k) := by
  refine ⟨by rw [List.length_take, h.len]; omega, ?_⟩
  have := h.is.head hk
  rwa [Nat.mul_one, ← List.map_take] at this
theorem ReadsB.drop {w : World} {B : Nat} {A : Option Addr} {n k c : Nat} {l : List UInt8} (h : ReadsB w B A n l) (hk : k ≤ n) (hc : n ≤ c) : ReadsB w B (if c = k then A else A.map (·.add k)) (n - k) (l.drop k) := by
  refine ⟨by rw [List.length_drop, h.len], ?_⟩
  have := h.is.cut hk hc
  rwa [Nat.mul_one, ← List.map_drop] at this
theorem take_next (l : List UInt8) (k : Nat) (h : k < l.length) : l.take (k + 1) = l.take k ++ [nth l k] := by
  rw [List.take_add_one, List.getElem?_eq_getElem h]
  simp [nth, h]
theorem ofNat32_succ (m : Nat) : UInt32.ofNat (m + 1) = UInt32.ofNat m + 1 := by rw [UInt32.ofNat_add]; rfl
/-- One byte of a slice that came in. -/
theorem ReadsB.cell {w : World} {B : Nat} {A : Option Addr} {n k : Nat} {l : List UInt8} (h : ReadsB w B A n l) (hk : k < n) : ∃ ad, A = some ad ∧ ad.block < B ∧ w.cell? (ad.add k) = some (.int .u8 (n8 (nth l k))) := by
  obtain ⟨ad, u, hA, had, hu, hcu⟩ := h.is.at_ (k := k) hk
  have h1 := arr_get l k (by rw [h.len]; exact hk)
  have h2 : (l.map U8)[k]? = some (.int .u8 (n8 (nth l k))) := by simpa [arr] using h1
  rw [h2] at hu
  injection hu with hu
  exact ⟨ad, hA, had, by rw [hcu, hu]⟩
/-- A byte appended, inside a region that draws. -/
theorem step_appendB {w : World} {ops : Array Oper} {o : Oper} {a : Act} {K : Act → World → Prop} {Q : Exit → Act → World → Prop} {E : Prop} (hgd : o.guard = none) (s x : Operand)
    (ho : o.op = .call { callee := .builtin .append, args := #[s, x], argTypes := #[37, 37] })
    (B : Nat) (v : Value) (l : List UInt8) (hs : a.eval s = v) (hown : OwnB w B v l) (B' : Nat) (A : Option Addr) (m c : Nat) (ys : List UInt8) (hx : a.eval x = .slice A m c) (hr : ReadsB w B' A m ys)
    (hlen : l.length + ys.length ≤ 140737488355328) (hB : B ≤ w.heap.size)
    (h : ∀ v' w', OwnB w' B v' (l ++ ys) → w.grownBy w' v.ownBlock → (v'.ownBlock = v.ownBlock ∨ v'.ownBlock = some w.heap.size) → K (a.put o.dst v') w') :
    if Region.wanted o (yielded ops a.tmps) = true then Oper.wp Tryz.prog o a w K Q else E := by
  obtain ⟨i0, hi0, hz0, hz1, hz2⟩ := info_parts u8_info
  have hm := hr.len
  refine step_append_any w hgd s x _ ho B 5 i0 _ 1 1 Tryz.underlying37 hi0 hz0 hz1 hz2 rfl (by omega) v l.length (l.map U8) hs hown.own B' A m c (ys.map U8) hx hr.is (by simp [Value.oneCell']) (by unfold maxLen; omega) (by omega) hB ?_
  intro v' w' h1 h2 h3
  refine h v' w' ⟨?_⟩ h2 h3
  rw [List.length_append, hm, List.map_append]; exact h1
end Go.Proofs.YtncaplplkfihgaaGreatDoor
