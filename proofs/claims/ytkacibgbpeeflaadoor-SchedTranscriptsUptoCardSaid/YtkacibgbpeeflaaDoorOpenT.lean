/-
  What comes in, opened for a walk: a slice of slices of bytes, and what the bound of an '..UptoSaid' says of it.
-/
import Derived.Test.YtkacibgbpeeflaaDoorOpenU
import Derived.Test.YtkacibgbpeeflaaDoorShaJ
import Derived.Deep.Matrix
set_option linter.unusedVariables false
set_option linter.unusedSimpArgs false
namespace Go.Proofs.YtkacibgbpeeflaaDoor
open Go.ChangeShapes Go.WideShapes Go.ChangeAt Go.RowKit Go.Deep
theorem bulk_map_len {H : Type} (f : Nat → DataW H) (g : Nat → List UInt8) (hfg : ∀ i, (g i).length ≤ Rows.uptoBulk (f i)) : ∀ n, ((List.range n).map g).flatten.length ≤ Rows.uptoBulkAll ((List.range n).map f)
  | 0 => by simp
  | n + 1 => by
    have ih := bulk_map_len f g hfg n
    have h1 := hfg n
    have e : ∀ (a b : List (DataW H)), Rows.uptoBulkAll (a ++ b) = Rows.uptoBulkAll a + Rows.uptoBulkAll b := by
      intro a b
      induction a with
      | nil => simp [Rows.uptoBulkAll]
      | cons x r ih => simp only [List.cons_append, Rows.uptoBulkAll, ih]; omega
    rw [List.range_succ, List.map_append, List.map_append, List.flatten_append, e, List.length_append]
    simp only [List.map_cons, List.map_nil, List.flatten_cons, List.flatten_nil, List.append_nil, Rows.uptoBulkAll]
    omega
theorem joined_map (f : Nat → Part) : ∀ l : List Nat, joined (l.map f) = (l.map fun i => (f i).t).flatten
  | [] => rfl
  | i :: r => by simp only [List.map_cons, List.flatten_cons, joined, joined_map f r]
section
variable {P : Program} {W : World} {H : Type} {enc : TypeId × Value → H}
theorem open_texts {t e q : TypeId} {held : Bool} {d : DataW H} {p : List MemPlace} {a : Option Addr} {len cap : Nat} (ht : P.underlying t = some (.slice e)) (he : P.underlying e = some (.slice q)) (hq : P.underlying q = some (.int .u8))
    (ce : P.cellsOf e = 1) (cq : P.cellsOf q = 1) (h : DataW.Trod enc P W 0 (fun _ => true) held t (.slice a len cap) d p) {l : List (DataW H)} (hk : Rows.uptoSmall H l = true) (hd : d ∈ l) :
    ∃ ps : List Part, Parts W W.heap.size a len ps ∧ len ≤ cap ∧ len ≤ 1048576 ∧ (joined ps).length ≤ 1048576 := by
  have hb : Rows.uptoBulkAll l ≤ 1048576 := of_decide_eq_true hk
  have hp := bulk_part hd
  obtain ⟨fuel, hf⟩ := h
  rcases open_int_rows ht he hq ce cq hf with ⟨hcs, _⟩ | ⟨x, l', c', A, L, C, Z, hcs, _, hl, hm, hx, hr⟩
  · simp [Value.cells] at hcs
    obtain ⟨rfl, rfl, rfl⟩ := hcs
    exact ⟨[], Parts.none _ _, Nat.le_refl _, by omega, by simp [joined]⟩
  · simp [Value.cells] at hcs
    obtain ⟨rfl, rfl, rfl⟩ := hcs
    simp only [Prod.mk.injEq] at hx
    obtain ⟨rfl, _⟩ := hx
    let T : Nat → List UInt8 := fun r => if r < len then ((Z r).take (L r)).map fun z => UInt8.ofNat z.toNat else []
    have hT : ∀ r, r < len → (T r).length = L r := fun r h => by
      have h1 := (hr r (by omega)).2.1
      have h2 := (hr r (by omega)).2.2.2.1
      simp only [T, if_pos h, List.length_map, List.length_take]; omega
    have hbk : ∀ r, (T r).length ≤ Rows.uptoBulk (intRow (H := H) .u8 (A r) (L r) (Z r)) := fun r => by
      by_cases h : r < len
      · obtain ⟨_, h1, _, h2, _, h4, _⟩ := hr r (by omega)
        have h3 := hT r h
        unfold intRow
        cases hA : A r with
        | none => have := h4 hA; simp [Rows.uptoBulk]; omega
        | some a' =>
          simp only [Rows.uptoBulk]
          have h5 := bulk_length (lits (H := H) .u8 ((Z r).take (L r)))
          simp only [lits, List.length_map, List.length_take] at h5
          simp only [lits] at *
          omega
      · simp only [T, if_neg h, List.length_nil]; omega
    have hsum := bulk_map_len (H := H) (fun r => intRow .u8 (A r) (L r) (Z r)) T hbk len
    have hcnt := bulk_length ((List.range len).map fun r => intRow (H := H) .u8 (A r) (L r) (Z r))
    simp only [List.length_map, List.length_range] at hcnt
    simp only [Rows.uptoBulk] at hp
    have hj : (joined ((List.range len).map fun r => (⟨A r, L r, C r, T r⟩ : Part))).length ≤ 1048576 := by
      rw [joined_map]
      exact Nat.le_trans hsum (by omega)
    refine ⟨(List.range len).map fun r => ⟨A r, L r, C r, T r⟩, ⟨by simp, fun i hi => ?_⟩, hl, by omega, hj⟩
    have ei : part ((List.range len).map fun r => (⟨A r, L r, C r, T r⟩ : Part)) i = ⟨A i, L i, C i, T i⟩ := by
      unfold part
      rw [List.getD_eq_getElem?_getD, List.getElem?_map, List.getElem?_range hi]; rfl
    rw [ei]
    obtain ⟨hc, h1, h6, h2, h3, h4, h5⟩ := hr i (by omega)
    have hlt : (x.add i).block < W.heap.size := World.block_lt_of_cell? W _ hc
    rw [block_of_add] at hlt
    refine ⟨x, rfl, hlt, hc, ⟨hT i hi, ⟨by simp [hT i hi], fun h0 => ?_⟩⟩, ?_⟩
    · have h0' : 0 < L i := h0
      show ∃ ad, A i = some ad ∧ _
      cases hA : A i with
      | none => have := h4 hA; omega
      | some a' =>
        obtain ⟨_, h7⟩ := h5 a' hA
        have hlt2 := World.block_lt_of_cell? W _ (h7 0 (by omega))
        rw [block_of_add] at hlt2
        refine ⟨a', rfl, hlt2, fun j u hu => ?_⟩
        have hj : j < L i := by
          rcases Nat.lt_or_ge j (L i) with hlt | hge
          · exact hlt
          · rw [List.getElem?_eq_none (by simp [hT i hi]; omega)] at hu; cases hu
        have hjz : j < (Z i).length := by omega
        rw [h7 j (by omega)]
        simp only [T, if_pos hi] at hu
        simp [List.getElem?_take, hj, hjz] at hu
        rw [← hu]
        congr 1
        have := u8_of_wf (Z i)[j] (h3 _ (List.getElem_mem hjz))
        simpa [hjz] using this
    · have := hbk i
      have h8 : Rows.uptoBulk (intRow (H := H) .u8 (A i) (L i) (Z i)) ≤ Rows.uptoBulkAll ((List.range len).map fun r => intRow .u8 (A r) (L r) (Z r)) := bulk_part (List.mem_map.2 ⟨i, List.mem_range.2 hi, rfl⟩)
      rw [hT i hi] at this
      show L i ≤ _
      omega
end
end Go.Proofs.YtkacibgbpeeflaaDoor
