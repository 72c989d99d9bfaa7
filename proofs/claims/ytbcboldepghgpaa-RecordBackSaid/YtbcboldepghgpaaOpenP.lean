/-
  A slice of structs that came in: the pieces of layer 18's RecordBack.
-/
import Derived.Test.YtbcboldepghgpaaOpenS
import Derived.Deep.Slices
import Derived.Deep.Strs
set_option linter.unusedVariables false
set_option linter.unusedSimpArgs false
set_option maxRecDepth 100000
namespace Go.Proofs.Ytbcboldepghgpaa
open Go.ChangeShapes Go.WideShapes Go.ChangeAt Go.RowKit Go.Deep Go.WideElems Go.Joins
/-- one piece lies at cells a, a + 1, a + 2 -/
structure PieceAt (W : World) (x : Addr) (B : Option Addr) (n c : Nat) (k : UInt8) (l : List UInt8) (pad : Int) : Prop where
  kind : W.cell? x = some (.int .u8 (n8 k))
  bytes : W.cell? (x.add 1) = some (.slice B n c)
  pad : W.cell? (x.add 2) = some (.int .i64 pad)
  reads : ReadsB W W.heap.size B n l
  low : n ≤ c
  high : c ≤ maxLen
theorem open_pieces {W : World} {H : Type} {enc : TypeId × Value → H} {held : Bool} {d : DataW H} {p : List MemPlace} {a : Option Addr} {len cap : Nat} (h : DataW.Trod enc Try.prog W 0 (fun _ => true) held 44 (.slice a len cap) d p) :
    len ≤ cap ∧ cap ≤ maxLen ∧ ∀ i, i < len → ∃ (x : Addr) (B : Option Addr) (n c : Nat) (k : UInt8) (l : List UInt8) (pad : Int), a = some x ∧ PieceAt W (x.add (i * 3)) B n c k l pad := by
  obtain ⟨fuel, hf⟩ := h
  rcases open_slice Try.underlying44 hf with ⟨hcs, _⟩ | ⟨x, len', cap', m, n, D, Pl, hcs, hb, hl, hm, hmm, _, hx⟩
  · simp [Value.cells] at hcs
    obtain ⟨rfl, rfl, rfl⟩ := hcs
    exact ⟨Nat.le_refl _, by simp, fun i h => absurd h (Nat.not_lt_zero _)⟩
  · simp [Value.cells] at hcs
    obtain ⟨rfl, rfl, rfl⟩ := hcs
    refine ⟨hl, hm, fun i hi => ?_⟩
    simp only [if_true] at hmm
    obtain ⟨cs', h1, h2⟩ := hx i (by omega)
    have ce : Try.prog.cellsOf 50 = 3 := by kernel_rfl
    rw [ce] at h1
    obtain ⟨_, hlen, hcell⟩ := World.cells?_some h1
    obtain ⟨y0, y1, y2, k, _, _, g0, g1, g2⟩ := trod_struct3 Try.underlying50 h2
    match cs', hlen with
    | [v0, v1, v2], _ =>
      have e0 := hcell 0 (by omega)
      have e1 := hcell 1 (by omega)
      have e2 := hcell 2 (by omega)
      have q0 : DataW.trod enc Try.prog W 0 (fun _ => true) held k 32 [v0] = some y0 := g0
      have q1 : DataW.trod enc Try.prog W 0 (fun _ => true) held k 24 [v1] = some y1 := g1
      have q2 : DataW.trod enc Try.prog W 0 (fun _ => true) held k 3 [v2] = some y2 := g2
      obtain ⟨z0, f0, _, w0⟩ := DataW.trod_int Try.underlying32 q0
      obtain ⟨B, l, c, f1⟩ := slice_form Try.underlying24 q1
      obtain ⟨z2, f2, _, _⟩ := DataW.trod_int Try.underlying3 q2
      injection f0 with f0 _
      injection f1 with f1 _
      injection f2 with f2 _
      subst f0 f1 f2
      obtain ⟨bs, hr, hlc, hcm⟩ := open_bytes (enc := enc) (held := held) (d := y1.1) (p := y1.2) Try.underlying24 Try.underlying5 cells_of_u8 ⟨k, by simpa [Value.cells] using q1⟩
      refine ⟨x, B, l, c, UInt8.ofNat z0.toNat, bs, z2, rfl, ⟨?_, by simpa using e1, by simpa using e2, hr, hlc, hcm⟩⟩
      rw [← u8_of_wf z0 w0]
      have e0' : W.cell? ((x.add (i * 3)).add 0) = some (Value.int IntKind.u8 z0) := by simpa using e0
      rwa [add_add, Nat.add_zero] at e0'
end Go.Proofs.Ytbcboldepghgpaa
