/-
  RecordBack, plain: records joined.
-/
import Derived.Test.YtbcboldepghgpaaRecM
import Derived.Test.YtbcboldepghgpaaOwnP
set_option linter.unusedVariables false
set_option linter.unusedSimpArgs false
set_option maxRecDepth 100000
namespace Go.Proofs.Ytbcboldepghgpaa
open Go.RowKit Go.WideElems Go.Deep
namespace Rec
/-- a piece as it is written: its content, its bytes, its pad -/
structure Pz where
  t : UInt8
  b : List UInt8
  pad : Nat
structure Pz.Ok (p : Pz) : Prop where
  len : p.b.length ≤ 16384
  pad : p.pad ≤ 255
  cont : p.t = 23 ∨ (0 < p.b.length ∧ (p.t = 21 ∨ p.t = 22))
def one (s : UInt16) (K V : List UInt8) (i : Nat) (p : Pz) : List UInt8 := recOf s K V (UInt64.ofNat i) p.t p.b p.pad
/-- the records of a list of pieces, the first of number i, joined -/
def recs (s : UInt16) (K V : List UInt8) : Nat → List Pz → List UInt8
  | _, [] => []
  | i, p :: r => one s K V i p ++ recs s K V (i + 1) r
theorem recs_snoc (s : UInt16) (K V : List UInt8) : ∀ (i : Nat) (l : List Pz) (p : Pz), recs s K V i (l ++ [p]) = recs s K V i l ++ one s K V (i + l.length) p
  | i, [], p => by simp [recs]
  | i, q :: r, p => by
    simp only [List.cons_append, recs, recs_snoc s K V (i + 1) r p, List.append_assoc, List.length_cons]
    rw [show i + 1 + r.length = i + (r.length + 1) by omega]
theorem one_len (s : UInt16) (K V : List UInt8) (i : Nat) (p : Pz) (h : p.Ok) : 22 ≤ (one s K V i p).length ∧ (one s K V i p).length ≤ 16645 := by
  have h1 := h.len
  have h2 := h.pad
  unfold one
  rw [recOf_len]
  omega
theorem recs_len (s : UInt16) (K V : List UInt8) : ∀ (i : Nat) (l : List Pz), (∀ p ∈ l, p.Ok) → (recs s K V i l).length ≤ 16645 * l.length
  | _, [], _ => by simp [recs]
  | i, q :: r, h => by
    have h1 := one_len s K V i q (h q (by simp))
    have h2 := recs_len s K V (i + 1) r (fun p hp => h p (by simp [hp]))
    simp only [recs, List.length_append, List.length_cons]
    omega
/-- a piece's cells, loaded at one address -/
theorem aggPc : AggT Try.prog 50 3 := ⟨by kernel_rfl, by kernel_rfl⟩
theorem run_loadPc {w : World} {o : Oper} {ρ : Operand → Value} {x : Operand} (ho : o.op = .load 50 x) (a : Addr) (p : Pc) (hx : ρ x = .pointer (some a)) (hk : w.cell? a = some (.int .u8 (n8 p.k))) (hv : w.cell? (a.add 1) = some p.v) (hp : w.cell? (a.add 2) = some (.int .i64 p.pad)) :
    (execOp ρ o).run Try.prog w = .ok (.value (.agg p.cells.toArray)) w :=
  run_execOp_load ho hx (run_loadVar_cells aggPc a p.cells rfl (fun j u hj => by
    match j, hj with
    | 0, hj => simp [Pc.cells] at hj; subst hj; cases a; simpa [Addr.add] using hk
    | 1, hj => simp [Pc.cells] at hj; subst hj; exact hv
    | 2, hj => simp [Pc.cells] at hj; subst hj; exact hp))
end Rec
end Go.Proofs.Ytbcboldepghgpaa
