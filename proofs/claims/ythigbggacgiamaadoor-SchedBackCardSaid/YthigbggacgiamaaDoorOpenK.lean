/-
  What comes in, opened for a walk: a ticket's key, a slice of keys, a session.
-/
import Derived.Test.YthigbggacgiamaaDoorOpen
import Derived.Test.YthigbggacgiamaaDoorTkP
import Derived.Deep.Slices
import Derived.Deep.Fields
import Derived.Lib.SmallJoins
set_option linter.unusedVariables false
set_option linter.unusedSimpArgs false
set_option maxRecDepth 100000
namespace Go.Proofs.YthigbggacgiamaaDoor
open Go.ChangeShapes Go.WideShapes Go.ChangeAt Go.RowKit Go.Deep Go.Joins
section
variable {H : Type} {enc : TypeId × Value → H} {P : Program} {w : World} {base : Nat} {spare : Nat → Bool} {held : Bool}
theorem trod_bytesN {t e : TypeId} {n k : Nat} {cs : List Value} {y : DataW H × List MemPlace} (hu : P.underlying t = some (.array n e)) (he : P.underlying e = some (.int .u8)) (hc : P.cellsOf e = 1) (hct : P.cellsOf t = n) (h : DataW.trod enc P w base spare held k t cs = some y) :
    ∃ l : List UInt8, l.length = n ∧ cs = l.map U8 := by
  obtain ⟨xs, m, _, hx, hl, hn, hi⟩ := DataW.trod_array hu h
  have hcn : cs.length = n := by rw [hl, hct]
  have hcell : ∀ i, i < n → ∃ z, cs[i]? = some (.int .u8 z) ∧ (Lit.int .u8 z).wf = true := by
    intro i hin
    have h1 := hi i hin
    rw [hc, Nat.mul_one, List.getElem?_eq_getElem (by omega)] at h1
    obtain ⟨z, e0, _, w0⟩ := DataW.trod_int he h1
    refine ⟨z, ?_, w0⟩
    have h3 : ((cs.drop i).take 1)[0]? = some (.int .u8 z) := by rw [e0]; rfl
    rw [List.getElem?_take, if_pos (by omega), List.getElem?_drop] at h3
    simpa using h3
  refine ⟨cs.map fun v => match v with | .int _ z => UInt8.ofNat z.toNat | _ => 0, by rw [List.length_map, hcn], ?_⟩
  apply List.ext_getElem?
  intro i
  rcases Nat.lt_or_ge i n with hin | hge
  · obtain ⟨z, hz, hw⟩ := hcell i hin
    simp only [List.getElem?_map, hz, Option.map_some]
    rw [u8_of_wf z hw]
  · rw [List.getElem?_eq_none (by omega), List.getElem?_eq_none (by simp; omega)]
end
namespace Tk
theorem c1 : Tryd.prog.cellsOf 5 = 1 := by kernel_rfl
/-- The cells of a key. -/
theorem key_cells {H : Type} {enc : TypeId × Value → H} {w : World} {base : Nat} {spare : Nat → Bool} {held : Bool} {k : Nat} {cs : List Value} {y : DataW H × List MemPlace} (h : DataW.trod enc Tryd.prog w base spare held k 25 cs = some y) :
    ∃ nm kk : List UInt8, nm.length = 4 ∧ kk.length = 32 ∧ cs = (nm ++ kk).map U8 := by
  obtain ⟨xs, n, _, _, hl, hlen, hf⟩ := DataW.trod_struct Tryd.underlying25 h
  have hl' : cs.length = 36 := hl.trans (by kernel_rfl)
  have h0 := hf 0 _ rfl
  have h1 := hf 1 _ rfl
  have e0 : ∃ y0, xs[0]? = some y0 := ⟨_, List.getElem?_eq_getElem (by rw [hlen]; decide)⟩
  have e1 : ∃ y1, xs[1]? = some y1 := ⟨_, List.getElem?_eq_getElem (by rw [hlen]; decide)⟩
  obtain ⟨y0, e0⟩ := e0
  obtain ⟨y1, e1⟩ := e1
  rw [e0] at h0
  rw [e1] at h1
  obtain ⟨nm, ln, hn⟩ := trod_bytesN Tryd.underlying22 Tryd.underlying5 c1 (by kernel_rfl) h0
  obtain ⟨kk, lk, hk⟩ := trod_bytesN Tryd.underlying23 Tryd.underlying5 c1 (by kernel_rfl) h1
  refine ⟨nm, kk, ln, lk, ?_⟩
  have c4 : Tryd.prog.cellsOf 22 = 4 := by kernel_rfl
  have c32 : Tryd.prog.cellsOf 23 = 32 := by kernel_rfl
  have hn' : cs.take 4 = nm.map U8 := by rw [← hn]; show _ = (cs.drop 0).take (Tryd.prog.cellsOf 22); rw [c4, List.drop_zero]
  have hk' : cs.drop 4 = kk.map U8 := by
    rw [← hk]
    show _ = (cs.drop 4).take (Tryd.prog.cellsOf 23)
    rw [c32, List.take_of_length_le (by rw [List.length_drop]; omega)]
  rw [List.map_append, ← hn', ← hk', List.take_append_drop]
theorem open_key {W : World} {H : Type} {enc : TypeId × Value → H} {b0 : Nat} {held : Bool} {v : Value} {d : DataW H} {p : List MemPlace} (hv : Value.okWide Tryd.prog W .any b0 25 v) (h : DataW.Trod enc Tryd.prog W 0 (fun _ => true) held 25 v d p) :
    ∃ nm kk : List UInt8, nm.length = 4 ∧ kk.length = 32 ∧ v = .agg (arr (nm ++ kk)) := by
  obtain ⟨cs, rfl, hsz⟩ := okWide_struct Tryd.underlying25 hv
  obtain ⟨fuel, hf⟩ := h
  obtain ⟨nm, kk, h1, h2, h3⟩ := key_cells hf
  refine ⟨nm, kk, h1, h2, ?_⟩
  congr 1
  apply Array.ext'
  have h4 : (Value.agg cs).cells.toList = cs.toList := rfl
  rw [h4] at h3
  rw [h3]
  simp [arr]
theorem open_keys {W : World} {H : Type} {enc : TypeId × Value → H} {held : Bool} {d : DataW H} {p : List MemPlace} {a : Option Addr} {len cap : Nat} (h : DataW.Trod enc Tryd.prog W 0 (fun _ => true) held 26 (.slice a len cap) d p) {ts : List TypeId} {ds : List (DataW H)} {q : Nat} (hsz : (DataW.weightsEach Tryd.prog ts ds).all (· ≤ reachBytes) = true) (hj : ts[q]? = some 26) (hd : ds[q]? = some d) :
    ∃ ks : List (List UInt8), ks.length = len ∧ RdK W W.heap.size a ks ∧ len * 36 ≤ 140737488351232 := by
  obtain ⟨fuel, hf⟩ := h
  rcases open_slice und_keys hf with ⟨hcs, _⟩ | ⟨x, len', cap', m, n, E, Pl, hcs, _, hl, hm, hmm, hx0, hx⟩
  · simp [Value.cells] at hcs
    obtain ⟨rfl, rfl, rfl⟩ := hcs
    exact ⟨[], rfl, RdK.none _ _, by omega⟩
  · simp [Value.cells] at hcs
    obtain ⟨rfl, rfl, rfl⟩ := hcs
    simp only [if_true] at hmm
    simp only [Prod.mk.injEq] at hx0
    obtain ⟨rfl, _⟩ := hx0
    have hlen : len * 36 ≤ 140737488351232 := by
      have h1 := sized_slice hsz hj hd und_keys
      have h2 : Tryd.prog.bytesOf 25 = 36 := by kernel_rfl
      rw [h2] at h1
      simp only [List.length_map, List.length_range, reachBytes] at h1
      omega
    have ce : Tryd.prog.cellsOf 25 = 36 := by kernel_rfl
    obtain ⟨V, hV⟩ := choose_lt (α := List UInt8) (n := len) (p := fun i k => k.length = 36 ∧ ∀ j, j < 36 → W.cell? ((x.add (i * 36)).add j) = (k.map U8)[j]?) (fun i hi => by
      obtain ⟨cs', h1, h2⟩ := hx i (by omega)
      rw [ce] at h1
      obtain ⟨_, hlen', hcell⟩ := World.cells?_some h1
      obtain ⟨nm, kk, l1, l2, e⟩ := key_cells h2
      exact ⟨nm ++ kk, by rw [List.length_append, l1, l2], fun j hj => by rw [← e]; exact hcell j hj⟩)
    have hlk : ((List.range len).map V).length = len := by simp
    have hm36 : ∀ k ∈ (List.range len).map V, k.length = 36 := fun k hk => by
      obtain ⟨i, hi, rfl⟩ := List.mem_map.1 hk
      exact (hV i (List.mem_range.1 hi)).1
    have hfl : ∀ ks : List (List UInt8), (∀ k ∈ ks, k.length = 36) → (flat ks).length = ks.length * 36 := by
      intro ks
      induction ks with
      | nil => intro _; rfl
      | cons k r ih =>
        intro h
        have h1 := ih (fun x hx => h x (by simp [hx]))
        have h2 := h k (by simp)
        unfold flat at *
        rw [List.flatMap_cons, List.length_append, h1, List.length_map, h2, List.length_cons]
        omega
    refine ⟨(List.range len).map V, hlk, ⟨hm36, hfl _ hm36, fun hn => ⟨x, rfl, ?_, fun j u hu => ?_⟩⟩, hlen⟩
    · rw [hlk] at hn
      have h0 := (hV 0 hn).2 0 (by omega)
      have h1 := (hV 0 hn).1
      rw [Nat.zero_mul, Addr.add_zero', Addr.add_zero'] at h0
      cases hq : ((V 0).map U8)[0]? with
      | none =>
        rw [List.getElem?_eq_none_iff, List.length_map] at hq
        omega
      | some u => exact World.block_lt_of_cell? W _ (h0.trans hq)
    · have hj : j < len * 36 := by
        have h1 := (List.getElem?_eq_some_iff.1 hu).1
        rw [hfl _ hm36, hlk] at h1
        exact h1
      have hq : j / 36 < len := by omega
      have e : j = j / 36 * 36 + j % 36 := by omega
      rw [e, flat_at _ hm36 (j / 36) (by rw [hlk]; exact hq) (j % 36) (by omega)] at hu
      have hgd : ((List.range len).map V).getD (j / 36) [] = V (j / 36) := by
        rw [List.getD_eq_getElem?_getD, List.getElem?_map, List.getElem?_range hq]; rfl
      rw [hgd] at hu
      have h2 := (hV (j / 36) hq).2 (j % 36) (by omega)
      rw [add_of_add, ← e] at h2
      exact h2.trans hu
theorem u32_of_wf (z : Int) (h : (Lit.int .u32 z).wf = true) : (Value.int .u32 z) = .int .u32 ((n32 (UInt32.ofNat z.toNat) : Nat) : Int) := by
  have hb := bounds_u32 h
  have : z = ((n32 (UInt32.ofNat z.toNat) : Nat) : Int) := by
    have h1 : z.toNat < 4294967296 := by omega
    show z = (((UInt32.ofNat z.toNat).toNat : Nat) : Int)
    rw [UInt32.toNat_ofNat', Nat.mod_eq_of_lt (by omega)]; omega
  rw [← this]
theorem u64_of_wf (z : Int) (h : (Lit.int .u64 z).wf = true) : (Value.int .u64 z) = .int .u64 ((n64 (UInt64.ofNat z.toNat) : Nat) : Int) := by
  have hb := bounds_u64 h
  have : z = ((n64 (UInt64.ofNat z.toNat) : Nat) : Int) := by
    show z = (((UInt64.ofNat z.toNat).toNat : Nat) : Int)
    rw [UInt64.toNat_ofNat', Nat.mod_eq_of_lt (by omega)]; omega
  rw [← this]
theorem open_ses {W : World} {H : Type} {enc : TypeId × Value → H} {b0 : Nat} {held : Bool} {v : Value} {d : DataW H} {p : List MemPlace} (hv : Value.okWide Tryd.prog W .any b0 34 v) (h : DataW.Trod enc Tryd.prog W 0 (fun _ => true) held 34 v d p) :
    ∃ (s : Ses) (A : Option Addr) (c : Nat), v = ses A c s ∧ ReadsB W W.heap.size A s.secret.length s.secret := by
  obtain ⟨cs, rfl, hsz⟩ := okWide_struct Tryd.underlying34 hv
  have hsz' : cs.size = 7 := hsz.trans (by kernel_rfl)
  obtain ⟨fuel, hf⟩ := h
  obtain ⟨xs, n, _, _, hl, hlen, hfs⟩ := DataW.trod_struct Tryd.underlying34 hf
  obtain ⟨l⟩ := cs
  match l, hsz' with
  | [v0, v1, v2, v3, v4, v5, v6], _ =>
    have get : ∀ i, i < 7 → ∃ y, xs[i]? = some y := fun i hi => ⟨_, List.getElem?_eq_getElem (by rw [hlen]; exact hi)⟩
    obtain ⟨y0, e0⟩ := get 0 (by omega)
    obtain ⟨y1, e1⟩ := get 1 (by omega)
    obtain ⟨y2, e2⟩ := get 2 (by omega)
    obtain ⟨y3, e3⟩ := get 3 (by omega)
    obtain ⟨y4, e4⟩ := get 4 (by omega)
    obtain ⟨y5, e5⟩ := get 5 (by omega)
    obtain ⟨y6, e6⟩ := get 6 (by omega)
    have h0 := (hfs 0 _ rfl).trans e0
    have h1 := (hfs 1 _ rfl).trans e1
    have h2 := (hfs 2 _ rfl).trans e2
    have h3 := (hfs 3 _ rfl).trans e3
    have h4 := (hfs 4 _ rfl).trans e4
    have h5 := (hfs 5 _ rfl).trans e5
    have h6 := (hfs 6 _ rfl).trans e6
    have k0 : DataW.trod enc Tryd.prog W 0 (fun _ => true) held n 29 [v0] = some y0 := h0
    have k1 : DataW.trod enc Tryd.prog W 0 (fun _ => true) held n 30 [v1] = some y1 := h1
    have k2 : DataW.trod enc Tryd.prog W 0 (fun _ => true) held n 9 [v2] = some y2 := h2
    have k3 : DataW.trod enc Tryd.prog W 0 (fun _ => true) held n 9 [v3] = some y3 := h3
    have k4 : DataW.trod enc Tryd.prog W 0 (fun _ => true) held n 31 [v4] = some y4 := h4
    have k5 : DataW.trod enc Tryd.prog W 0 (fun _ => true) held n 32 [v5] = some y5 := h5
    have k6 : DataW.trod enc Tryd.prog W 0 (fun _ => true) held n 32 [v6] = some y6 := h6
    obtain ⟨z0, f0, _, w0⟩ := DataW.trod_int Tryd.underlying29 k0
    obtain ⟨a, m, c, f1⟩ := slice_form Tryd.underlying30 k1
    obtain ⟨s2, f2, _, _⟩ := DataW.trod_string Tryd.underlying9 k2
    obtain ⟨s3, f3, _, _⟩ := DataW.trod_string Tryd.underlying9 k3
    obtain ⟨z4, f4, _, w4⟩ := DataW.trod_int Tryd.underlying31 k4
    obtain ⟨z5, f5, _, w5⟩ := DataW.trod_int Tryd.underlying32 k5
    obtain ⟨z6, f6, _, w6⟩ := DataW.trod_int Tryd.underlying32 k6
    injection f0 with f0 _
    injection f1 with f1 _
    injection f2 with f2 _
    injection f3 with f3 _
    injection f4 with f4 _
    injection f5 with f5 _
    injection f6 with f6 _
    subst f0 f1 f2 f3 f4 f5 f6
    obtain ⟨bs, hr, hlc, hcm⟩ := open_bytes (enc := enc) (held := held) (d := y1.1) (p := y1.2) Tryd.underlying30 Tryd.underlying5 c1 ⟨n, by simpa [Value.cells] using k1⟩
    have hbl := hr.len
    subst hbl
    refine ⟨⟨UInt16.ofNat z0.toNat, bs, s2.data.toList, s3.data.toList, UInt64.ofNat z4.toNat, UInt32.ofNat z5.toNat, UInt32.ofNat z6.toNat⟩, a, c, ?_, hr⟩
    unfold ses
    dsimp only
    rw [u16_of_wf z0 w0, u64_of_wf z4 w4, u32_of_wf z5 w5, u32_of_wf z6 w6]
    rfl
end Tk
end Go.Proofs.YthigbggacgiamaaDoor
