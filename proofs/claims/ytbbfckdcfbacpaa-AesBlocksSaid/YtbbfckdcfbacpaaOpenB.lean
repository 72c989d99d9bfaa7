/-
  What comes in, opened for a walk: a slice of arrays of bytes.
-/
import Derived.Test.YtbbfckdcfbacpaaOpen
set_option linter.unusedVariables false
set_option linter.unusedSimpArgs false
namespace Go.Proofs.Ytbbfckdcfbacpaa
open Go.ChangeShapes Go.WideShapes Go.ChangeAt Go.RowKit
/-- A slice of blocks that came in. -/
structure Reads16 (w : World) (B : Nat) (A : Option Addr) (n : Nat) (rows : Nat → List UInt8) : Prop where
  is : 0 < n → ∃ ad, A = some ad ∧ ad.block < B ∧ ∀ i, i < n → (rows i).length = 16 ∧ Cells w (ad.add (i * 16)) ((rows i).map U8)
theorem Reads16.below {w w' : World} {B : Nat} {A : Option Addr} {n : Nat} {rows : Nat → List UInt8} (h : Reads16 w B A n rows) (hb : Below B w w') : Reads16 w' B A n rows :=
  ⟨fun hn => by
    obtain ⟨ad, e, hB, hc⟩ := h.is hn
    exact ⟨ad, e, hB, fun i hi => ⟨(hc i hi).1, (hc i hi).2.below hb (by rw [block_of_add]; exact hB)⟩⟩⟩
section
variable {P : Program} {W : World} {H : Type} {enc : TypeId × Value → H}
theorem open_rows {t e u : TypeId} {held : Bool} {d : DataW H} {p : List MemPlace} {a : Option Addr} {len cap : Nat} (ht : P.underlying t = some (.slice e)) (he : P.underlying e = some (.array 16 u)) (hu : P.underlying u = some (.int .u8)) (hc : P.cellsOf e = 16) (hcu : P.cellsOf u = 1)
    (h : DataW.Trod enc P W 0 (fun _ => true) held t (.slice a len cap) d p) : ∃ rows : Nat → List UInt8, Reads16 W W.heap.size a len rows := by
  obtain ⟨fuel, hf⟩ := h
  rcases DataW.trod_slice ht hf with ⟨hcs, _⟩ | ⟨x, l, c, elems, rest, n, _, hcs, _, _, hl, hm, hlen, hel, _, _⟩
  · simp [Value.cells] at hcs
    obtain ⟨rfl, rfl, rfl⟩ := hcs
    exact ⟨fun _ => [], ⟨fun h => absurd h (by omega)⟩⟩
  · simp [Value.cells] at hcs
    obtain ⟨rfl, rfl, rfl⟩ := hcs
    have each : ∀ i, i < len → ∃ row : List UInt8, row.length = 16 ∧ Cells W (x.add (i * 16)) (row.map U8) := by
      intro i hi
      have h1 := hel i hi
      rw [hc, List.getElem?_eq_getElem (by omega), Option.bind_eq_some_iff] at h1
      obtain ⟨cs, hcells, htr⟩ := h1
      obtain ⟨xs, m, _, _, hcl, hxn, hx⟩ := DataW.trod_array he htr
      rw [hc] at hcl
      obtain ⟨_, hlen2, hat⟩ := World.cells?_some hcells
      have hcell : ∀ j, j < 16 → ∃ z, cs[j]? = some (.int .u8 z) ∧ (Lit.int .u8 z).wf = true := by
        intro j hj
        have h2 := hx j hj
        rw [hcu, Nat.mul_one, List.getElem?_eq_getElem (by omega)] at h2
        obtain ⟨z, e0, _, w0⟩ := DataW.trod_int hu h2
        refine ⟨z, ?_, w0⟩
        have h3 : ((cs.drop j).take 1)[0]? = some (.int .u8 z) := by rw [e0]; rfl
        rw [List.getElem?_take, if_pos (by omega), List.getElem?_drop] at h3
        simpa using h3
      refine ⟨cs.map fun v => match v with | .int _ z => UInt8.ofNat z.toNat | _ => 0, by simp [hcl], ⟨fun j v hv => ?_⟩⟩
      have hj : j < 16 := by
        rcases Nat.lt_or_ge j 16 with hlt | hge
        · exact hlt
        · rw [List.getElem?_eq_none (by simp; omega)] at hv; cases hv
      obtain ⟨z, hz, hw⟩ := hcell j hj
      rw [hat j hj, hz]
      simp only [List.getElem?_map, hz, Option.map_some] at hv
      rw [← hv, u8_of_wf z hw]
    refine ⟨fun i => if h : i < len then Classical.choose (each i h) else [], ⟨fun hn => ⟨x, rfl, ?_, fun i hi => ?_⟩⟩⟩
    · obtain ⟨row, hr, hcl⟩ := each 0 hn
      have hg : (row.map U8)[0]? = some (U8 (nth row 0)) := by
        have := arr_get row 0 (by omega)
        simpa [arr] using this
      have := World.block_lt_of_cell? W _ (hcl.is 0 _ hg)
      rwa [block_of_add, block_of_add] at this
    · rw [dif_pos hi]
      exact Classical.choose_spec (each i hi)
end
end Go.Proofs.Ytbbfckdcfbacpaa
