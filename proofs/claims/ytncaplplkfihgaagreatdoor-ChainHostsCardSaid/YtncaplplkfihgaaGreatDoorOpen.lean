/-
  What comes in, opened for a walk: a slice of bytes, an array of bytes by value.
-/
import Derived.Test.YtncaplplkfihgaaGreatDoorApp
import Derived.Test.YtncaplplkfihgaaGreatDoorRows
import Derived.ProofKit
import Derived.OpenShut
import Derived.ChangeOld
import Derived.SizedLaws
set_option linter.unusedVariables false
set_option linter.unusedSimpArgs false
set_option maxRecDepth 100000
namespace Go.Proofs.YtncaplplkfihgaaGreatDoor
open Go.ChangeShapes Go.WideShapes Go.ChangeAt Go.RowKit
theorem u8_of_wf (z : Int) (h : (Lit.int .u8 z).wf = true) : (Value.int .u8 z) = .int .u8 (n8 (UInt8.ofNat z.toNat)) := by
  have hb := bounds_u8 h
  have : z = ((n8 (UInt8.ofNat z.toNat) : Nat) : Int) := by
    have h1 : z.toNat < 256 := by omega
    rw [← n8_lit z.toNat h1]; omega
  rw [← this]
section
variable {P : Program} {W : World} {H : Type} {enc : TypeId × Value → H}
theorem open_bytes {t e : TypeId} {held : Bool} {d : DataW H} {p : List MemPlace} {a : Option Addr} {len cap : Nat} (ht : P.underlying t = some (.slice e)) (he : P.underlying e = some (.int .u8)) (hc : P.cellsOf e = 1) (h : DataW.Trod enc P W 0 (fun _ => true) held t (.slice a len cap) d p) :
    ∃ l : List UInt8, ReadsB W W.heap.size a len l ∧ len ≤ cap ∧ cap ≤ maxLen := by
  obtain ⟨fuel, hf⟩ := h
  rcases open_ints ht he hc hf with ⟨hcs, _⟩ | ⟨x, l, c, zs, hcs, _, hl, hm, hz, _, hcell, hwz⟩
  · simp [Value.cells] at hcs
    obtain ⟨rfl, rfl, rfl⟩ := hcs
    exact ⟨[], ⟨rfl, Reads.none_⟩, Nat.le_refl _, by simp⟩
  · simp [Value.cells] at hcs
    obtain ⟨rfl, rfl, rfl⟩ := hcs
    have hz' : zs.length = cap := by simpa using hz
    refine ⟨(zs.take len).map fun z => UInt8.ofNat z.toNat, ⟨by simp; omega, ⟨by simp; omega, fun hn => ⟨x, rfl, ?_, fun j u hu => ?_⟩⟩⟩, hl, hm⟩
    · have := World.block_lt_of_cell? W _ (hcell 0 (by omega))
      rwa [block_of_add] at this
    · have hj : j < len := by
        rcases Nat.lt_or_ge j len with hlt | hge
        · exact hlt
        · rw [List.getElem?_eq_none (by simp; omega)] at hu; cases hu
      have hjz : j < zs.length := by omega
      rw [hcell j hjz]
      simp [List.getElem?_take, hj, hjz] at hu
      rw [← hu]
      congr 1
      have := u8_of_wf zs[j] (hwz _ (List.getElem_mem hjz))
      simpa [hjz] using this
/-- .. and the form's own reach: no slice takes more than 2^47 - 4096 bytes. -/
theorem reach_bytes {t e : TypeId} {held : Bool} {d : DataW H} {p : List MemPlace} {a : Option Addr} {len cap : Nat} (ht : P.underlying t = some (.slice e)) (he : P.underlying e = some (.int .u8)) (hc : P.cellsOf e = 1) (hb : P.bytesOf e = 1) (h : DataW.Trod enc P W 0 (fun _ => true) held t (.slice a len cap) d p)
    {ts : List TypeId} {ds : List (DataW H)} {j : Nat} (hsz : (DataW.weightsEach P ts ds).all (· ≤ reachBytes) = true) (hj : ts[j]? = some t) (hd : ds[j]? = some d) : cap ≤ 140737488351232 := by
  obtain ⟨fuel, hf⟩ := h
  rcases open_ints ht he hc hf with ⟨hcs, _⟩ | ⟨x, l, c, zs, hcs, _, hl, hm, hz, hx, _, _⟩
  · simp [Value.cells] at hcs
    omega
  · simp [Value.cells] at hcs
    obtain ⟨rfl, rfl, rfl⟩ := hcs
    simp only [Prod.mk.injEq] at hx
    obtain ⟨rfl, _⟩ := hx
    have hz' : zs.length = cap := by simpa using hz
    have := sized_slice hsz hj hd ht
    rw [hb] at this
    simp only [lits, List.length_map, List.length_take, List.length_drop, reachBytes] at this
    omega
theorem u16_of_wf (z : Int) (h : (Lit.int .u16 z).wf = true) : (Value.int .u16 z) = .int .u16 (n16 (UInt16.ofNat z.toNat)) := by
  have hb := bounds_u16 h
  have : z = ((n16 (UInt16.ofNat z.toNat) : Nat) : Int) := by
    have h1 : z.toNat < 65536 := by omega
    rw [← n16_lit z.toNat h1]; omega
  rw [← this]
theorem open_arr {t e : TypeId} {n base : Nat} {sp : Nat → Bool} {held : Bool} {v : Value} {d : DataW H} {p : List MemPlace} (hu : P.underlying t = some (.array n e)) (he : P.underlying e = some (.int .u8)) (hc : P.cellsOf e = 1) (hct : P.cellsOf t = n)
    (hval : Value.okWide P W .any base t v) (h : DataW.Trod enc P W 0 sp held t v d p) : ∃ l : List UInt8, l.length = n ∧ v = .agg (arr l) := by
  obtain ⟨cs, rfl, hsz, _⟩ : ∃ cs, v = .agg cs ∧ cs.size = P.cellsOf t ∧ Row.okWide P W .any base t cs := by
    simpa [Value.okWide, hu] using hval
  obtain ⟨fuel, hf⟩ := h
  obtain ⟨xs, m, _, hx, hl, hn, hi⟩ := DataW.trod_array hu hf
  have hcn : cs.size = n := by rw [hsz, hct]
  have hcell : ∀ i, i < n → ∃ z, cs[i]? = some (.int .u8 z) ∧ (Lit.int .u8 z).wf = true := by
    intro i hin
    have h1 := hi i hin
    rw [hc, Nat.mul_one, List.getElem?_eq_getElem (by omega)] at h1
    obtain ⟨z, e0, _, w0⟩ := DataW.trod_int he h1
    refine ⟨z, ?_, w0⟩
    have h2 : (Value.agg cs).cells.toList = cs.toList := rfl
    rw [h2] at e0
    have h3 : ((cs.toList.drop i).take 1)[0]? = some (.int .u8 z) := by rw [e0]; rfl
    rw [List.getElem?_take, if_pos (by omega), List.getElem?_drop] at h3
    simpa using h3
  refine ⟨cs.toList.map fun v => match v with | .int _ z => UInt8.ofNat z.toNat | _ => 0, by simp [hcn], ?_⟩
  congr 1
  apply Array.ext'
  apply List.ext_getElem?
  intro i
  rcases Nat.lt_or_ge i n with hin | hge
  · obtain ⟨z, hz, hw⟩ := hcell i hin
    have hz' : cs.toList[i]? = some (.int .u8 z) := by simpa using hz
    rw [hz']
    simp only [arr, List.getElem?_map, hz', Option.map_some]
    rw [u8_of_wf z hw]
  · rw [List.getElem?_eq_none (by simp; omega), List.getElem?_eq_none (by simp [arr]; omega)]
end
end Go.Proofs.YtncaplplkfihgaaGreatDoor
