/-
  What comes in, opened for a walk: a slice of slices of bytes, by the reach alone.
-/
import Derived.Test.YthkggeohdclffaaDoorOpen
import Derived.Test.YthkggeohdclffaaDoorParts
import Derived.Deep.Matrix
import Derived.SizedLaws
set_option linter.unusedVariables false
set_option linter.unusedSimpArgs false
set_option maxRecDepth 100000
namespace Go.Proofs.YthkggeohdclffaaDoor
open Go.ChangeShapes Go.WideShapes Go.ChangeAt Go.RowKit Go.Deep
theorem weights_all {H : Type} {P : Program} {e : TypeId} {d : DataW H} {x : Nat} (hx : x ∈ d.weights P e) : ∀ l : List (DataW H), d ∈ l → x ∈ DataW.weightsAll P e l
  | [], h => absurd h List.not_mem_nil
  | y :: r, h => by
    unfold DataW.weightsAll
    rcases List.mem_cons.1 h with rfl | h1
    · exact List.mem_append_left _ hx
    · exact List.mem_append_right _ (weights_all hx r h1)
section
variable {P : Program} {W : World} {H : Type} {enc : TypeId × Value → H}
theorem open_texts_reach {t e q : TypeId} {held : Bool} {d : DataW H} {p : List MemPlace} {a : Option Addr} {len cap : Nat} (ht : P.underlying t = some (.slice e)) (he : P.underlying e = some (.slice q)) (hq : P.underlying q = some (.int .u8))
    (ce : P.cellsOf e = 1) (cq : P.cellsOf q = 1) (be : 1 ≤ P.bytesOf e) (bq : P.bytesOf q = 1) (h : DataW.Trod enc P W 0 (fun _ => true) held t (.slice a len cap) d p)
    {ts : List TypeId} {ds : List (DataW H)} {j : Nat} (hsz : (DataW.weightsEach P ts ds).all (· ≤ reachBytes) = true) (hj : ts[j]? = some t) (hd : ds[j]? = some d) :
    ∃ ps : List Part, Parts W W.heap.size a len ps ∧ len ≤ cap ∧ cap ≤ 140737488351232 := by
  obtain ⟨fuel, hf⟩ := h
  rcases open_int_rows ht he hq ce cq hf with ⟨hcs, _⟩ | ⟨x, l', c', A, L, C, Z, hcs, _, hl, hm, hx, hr⟩
  · simp [Value.cells] at hcs
    obtain ⟨rfl, rfl, rfl⟩ := hcs
    exact ⟨[], Parts.none _ _, Nat.le_refl _, by omega⟩
  · simp [Value.cells] at hcs
    obtain ⟨rfl, rfl, rfl⟩ := hcs
    simp only [Prod.mk.injEq] at hx
    obtain ⟨rfl, _⟩ := hx
    have hcap : cap ≤ 140737488351232 := by
      have h1 := sized_slice hsz hj hd ht
      simp only [List.length_map, List.length_range, reachBytes] at h1
      have h2 : (len + (cap - len)) * 1 ≤ (len + (cap - len)) * P.bytesOf e := Nat.mul_le_mul_left _ be
      omega
    have hrow : ∀ i, i < len → A i ≠ none → C i ≤ 140737488351232 := fun i hi hA => by
      have hz := (hr i (by omega)).2.2.2.1
      have hli := (hr i (by omega)).2.1
      have hmem : (intRow (H := H) .u8 (A i) (L i) (Z i)) ∈ (List.range len).map fun r => intRow (H := H) .u8 (A r) (L r) (Z r) := List.mem_map.2 ⟨i, List.mem_range.2 hi, rfl⟩
      have hw : C i * 1 ∈ (intRow (H := H) .u8 (A i) (L i) (Z i)).weights P e := by
        unfold intRow
        cases hA' : A i with
        | none => exact absurd hA' hA
        | some a' =>
          have e2 : ((lits (H := H) .u8 ((Z i).take (L i))).length + (lits (H := H) .u8 ((Z i).drop (L i))).length) * P.bytesOf q = C i * 1 := by
            rw [bq]; simp only [lits, List.length_map, List.length_take, List.length_drop]; omega
          simp only [DataW.weights, he]
          rw [e2]
          exact List.mem_cons_self
      have h1 := weights_all hw _ hmem
      have h2 := List.all_eq_true.1 hsz (C i * 1) (DataW.weights_mem_each hj hd _ (by simp only [DataW.weights, ht]; exact List.mem_cons_of_mem _ (List.mem_append_left _ h1)))
      have h3 : C i * 1 ≤ reachBytes := of_decide_eq_true h2
      unfold reachBytes at h3
      omega
    let T : Nat → List UInt8 := fun r => if r < len then ((Z r).take (L r)).map fun z => UInt8.ofNat z.toNat else []
    have hT : ∀ r, r < len → (T r).length = L r := fun r h => by
      have h1 := (hr r (by omega)).2.1
      have h2 := (hr r (by omega)).2.2.2.1
      simp only [T, if_pos h, List.length_map, List.length_take]; omega
    refine ⟨(List.range len).map fun r => ⟨A r, L r, C r, T r⟩, ⟨by simp, fun i hi => ?_⟩, hl, hcap⟩
    have ei : part ((List.range len).map fun r => (⟨A r, L r, C r, T r⟩ : Part)) i = ⟨A i, L i, C i, T i⟩ := by
      unfold part
      rw [List.getD_eq_getElem?_getD, List.getElem?_map, List.getElem?_range hi]; rfl
    rw [ei]
    obtain ⟨hc, h1, h6, h2, h3, h4, h5⟩ := hr i (by omega)
    have hlt : (x.add i).block < W.heap.size := World.block_lt_of_cell? W _ hc
    rw [block_of_add] at hlt
    refine ⟨x, rfl, hlt, hc, ⟨hT i hi, ⟨by simp [hT i hi], fun h0 => ?_⟩⟩, ?_⟩
    · have h0' : 0 < L i := h0
      show ∃ ad, A i = some ad ∧ _
      cases hA : A i with
      | none => have := h4 hA; omega
      | some a' =>
        obtain ⟨_, h7⟩ := h5 a' hA
        have hlt2 := World.block_lt_of_cell? W _ (h7 0 (by omega))
        rw [block_of_add] at hlt2
        refine ⟨a', rfl, hlt2, fun j u hu => ?_⟩
        have hj : j < L i := by
          rcases Nat.lt_or_ge j (L i) with hlt | hge
          · exact hlt
          · rw [List.getElem?_eq_none (by simp [hT i hi]; omega)] at hu; cases hu
        have hjz : j < (Z i).length := by omega
        rw [h7 j (by omega)]
        simp only [T, if_pos hi] at hu
        simp [List.getElem?_take, hj, hjz] at hu
        rw [← hu]
        congr 1
        have := u8_of_wf (Z i)[j] (h3 _ (List.getElem_mem hjz))
        simpa [hjz] using this
    · show L i ≤ _
      cases hA : A i with
      | none => have := h4 hA; omega
      | some a' => have := hrow i hi (by rw [hA]; intro h; cases h); omega
end
end Go.Proofs.YthkggeohdclffaaDoor
