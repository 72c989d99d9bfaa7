/-
  Own slices of keys.
-/
import Derived.Test.YthigbggacgiamaaDoorTkO
import Derived.Deep.DeepAppendWide
set_option linter.unusedVariables false
set_option linter.unusedSimpArgs false
set_option maxRecDepth 100000
namespace Go.Proofs.YthigbggacgiamaaDoor
open Go.RowKit
namespace Tk
/-- Keys as they lie. -/
def flat (ks : List (List UInt8)) : List Value := ks.flatMap fun k => k.map U8
structure RdK (w : World) (B : Nat) (A : Option Addr) (ks : List (List UInt8)) : Prop where
  len : ∀ k ∈ ks, k.length = 36
  is : Reads w B 36 A ks.length (flat ks)
structure OwnK (w : World) (B : Nat) (v : Value) (ks : List (List UInt8)) : Prop where
  len : ∀ k ∈ ks, k.length = 36
  own : w.ownsRow B 25 36 v ks.length (flat ks)
theorem flat_at : ∀ (ks : List (List UInt8)), (∀ k ∈ ks, k.length = 36) → ∀ i, i < ks.length → ∀ j, j < 36 → (flat ks)[i * 36 + j]? = ((ks.getD i []).map U8)[j]?
  | [], _, i, hi, _, _ => by simp at hi
  | k :: r, h, 0, _, j, hj => by
    have hk : k.length = 36 := h k (by simp)
    simp only [flat, List.flatMap_cons, Nat.zero_mul, Nat.zero_add]
    rw [List.getElem?_append_left (by rw [List.length_map]; omega)]
    rfl
  | k :: r, h, i + 1, hi, j, hj => by
    have hk : k.length = 36 := h k (by simp)
    have ih := flat_at r (fun x hx => h x (by simp [hx])) i (by simpa using hi) j hj
    simp only [flat, List.flatMap_cons]
    rw [List.getElem?_append_right (by rw [List.length_map]; omega), List.length_map, hk, show (i + 1) * 36 + j - 36 = i * 36 + j by omega]
    exact ih
theorem getD_mem {ks : List (List UInt8)} {i : Nat} (hi : i < ks.length) : ks.getD i [] ∈ ks := by
  rw [List.getD_eq_getElem?_getD, List.getElem?_eq_getElem hi]
  exact List.getElem_mem hi
theorem RdK.keys {w : World} {B : Nat} {A : Option Addr} {ks : List (List UInt8)} (h : RdK w B A ks) : Keys w B A ks := by
  refine ⟨fun i hi => h.len _ (getD_mem hi), fun i hi => ?_⟩
  obtain ⟨ad, e, hb, hc⟩ := h.is.2 (by omega)
  refine ⟨ad, e, hb, ⟨fun j v hv => ?_⟩⟩
  have hj : j < 36 := by
    rcases Nat.lt_or_ge j 36 with h' | h'
    · exact h'
    · rw [List.getElem?_eq_none (by rw [List.length_map, h.len _ (getD_mem hi)]; exact h')] at hv; cases hv
  rw [add_of_add]
  exact hc _ v (by rw [flat_at ks h.len i hi j hj]; exact hv)
theorem RdK.below {w w' : World} {B : Nat} {A : Option Addr} {ks : List (List UInt8)} (h : RdK w B A ks) (hb : Below B w w') : RdK w' B A ks := ⟨h.len, h.is.below hb⟩
theorem RdK.more {w : World} {B B' : Nat} {A : Option Addr} {ks : List (List UInt8)} (h : RdK w B A ks) (hB : B ≤ B') : RdK w B' A ks := ⟨h.len, h.is.more hB⟩
theorem RdK.none (w : World) (B : Nat) : RdK w B none [] := ⟨fun _ hk => absurd hk List.not_mem_nil, Reads.none_⟩
theorem OwnK.nil (w : World) (B : Nat) : OwnK w B (.slice none 0 0) [] := ⟨fun _ hk => absurd hk List.not_mem_nil, World.ownsRow_nil w B _ 36⟩
theorem OwnK.lt {w : World} {B : Nat} {v : Value} {ks : List (List UInt8)} (h : OwnK w B v ks) : v.ownBlock = none ∨ ∃ g, v.ownBlock = some g ∧ B ≤ g ∧ g < w.heap.size := by
  rcases h.own.2 with ⟨rfl, _⟩ | ⟨g, cap, cur, rfl, hb, hg, _⟩
  · exact .inl rfl
  · refine .inr ⟨g, rfl, hb, ?_⟩
    rcases Nat.lt_or_ge g w.heap.size with hlt | hge
    · exact hlt
    · rw [Array.getElem?_eq_none hge] at hg; cases hg
theorem OwnK.reads {w : World} {B : Nat} {v : Value} {ks : List (List UInt8)} (h : OwnK w B v ks) : ∃ A c, v = .slice A ks.length c ∧ RdK w w.heap.size A ks := by
  rcases h.own.2 with ⟨rfl, h0⟩ | ⟨g, cap, cur, rfl, hb, hg, _⟩
  · obtain rfl : ks = [] := List.length_eq_zero_iff.1 h0
    exact ⟨none, 0, rfl, RdK.none _ _⟩
  · refine ⟨_, _, rfl, h.len, h.own.1, fun _ => ⟨_, rfl, ?_, h.own.cells (g := g) rfl⟩⟩
    rcases Nat.lt_or_ge g w.heap.size with hlt | hge
    · exact hlt
    · rw [Array.getElem?_eq_none hge] at hg; cases hg
theorem OwnK.drew {w : World} {B : Nat} {v : Value} {ks : List (List UInt8)} (h : OwnK w B v ks) : OwnK w.drew B v ks := ⟨h.len, h.own.drew⟩
theorem OwnK.later {w w' : World} {B : Nat} {v : Value} {ks : List (List UInt8)} (h : OwnK w B v ks) (hb : Below w.heap.size w w') : OwnK w' B v ks := by
  have hg : w.grownBy w' (some w.heap.size) := ⟨hb.os, hb.tape, hb.output, hb.size, fun i hi _ => hb.block i hi⟩
  refine ⟨h.len, h.own.kept hg (.inr ?_)⟩
  rcases h.lt with e | ⟨g, e, _, hlt⟩
  · rw [e]; intro h; cases h
  · rw [e]; intro h; injection h; omega
theorem OwnK.one {w : World} {B : Nat} (hB : B ≤ w.heap.size) (k : List UInt8) (hk : k.length = 36) : OwnK (w.alloc (.cells (arr k) 25)) B (.slice (some ⟨w.heap.size, 0, none⟩) 1 1) [k] := by
  refine ⟨fun x hx => by simp at hx; subst hx; exact hk, by simp [flat, hk], .inr ⟨w.heap.size, 1, _, rfl, hB, heap_alloc_new _ _, Nat.le_refl _, by unfold maxLen; omega, by rw [arr_size, hk], ?_⟩⟩
  show (arr k).toList.take (1 * 36) = _
  rw [List.take_of_length_le (by simp [arr, hk])]
  simp [arr, flat]
theorem key_info : (Tryd.prog.info? 25).map (fun i => (i.zero, i.size, i.bytes)) = some (some (.agg (arr (List.replicate 36 0))), 36, 36) := by kernel_rfl
theorem und_keys : Tryd.prog.underlying 26 = some (.slice 25) := by kernel_rfl
theorem one_flat (ks : List (List UInt8)) : ∀ u ∈ flat ks, u.oneCell' = true := by
  intro u hu
  simp only [flat, List.mem_flatMap, List.mem_map] at hu
  obtain ⟨_, _, x, _, rfl⟩ := hu
  rfl
/-- An append. -/
theorem run_app (w : World) (ty : TypeId) (B : Nat) (v : Value) (ks : List (List UInt8)) (hown : OwnK w B v ks) (B' : Nat) (A : Option Addr) (m c : Nat) (ns : List (List UInt8)) (hm : ns.length = m) (hr : RdK w B' A ns) (hle : (ks.length + m) * 36 ≤ 140737488355328) (hB : B ≤ w.heap.size) :
    ∃ v' w', (Builtin.append_ #[26, 26] ty #[v, .slice A m c]).run Tryd.prog w = .ok v' w' ∧ OwnK w' B v' (ks ++ ns) ∧ w.grownBy w' v.ownBlock := by
  subst hm
  have hin := key_info
  simp only [Option.map_eq_some_iff, Prod.mk.injEq] at hin
  obtain ⟨i, hi, hz, hs, hb⟩ := hin
  have hzs : (Value.agg (arr (List.replicate 36 0))).cells.size = 36 := by show (arr _).size = 36; rw [arr_size, List.length_replicate]
  obtain ⟨v', w', hrun, h2, h3, h4⟩ := run_append_any (P := Tryd.prog) w B 26 ty 25 i _ 36 36 und_keys hi hz hs hb hzs (by omega) v ks.length (flat ks) hown.own B' A ns.length c (flat ns) hr.is (one_flat ns) (by unfold maxLen; omega) (by omega) hB
  have hlen : ∀ k ∈ ks ++ ns, k.length = 36 := fun k hk => by
    rcases List.mem_append.1 hk with h | h
    · exact hown.len k h
    · exact hr.len k h
  exact ⟨v', w', hrun, ⟨hlen, by rw [List.length_append]; simpa [flat, List.flatMap_append] using h2⟩, h3⟩
/-- One more key; the keys that were there are read as before. -/
theorem run_app1 (w : World) (ty : TypeId) (B : Nat) (v : Value) (ks : List (List UInt8)) (hown : OwnK w B v ks) (B' : Nat) (ad : Addr) (c : Nat) (kn : List UInt8) (hr : RdK w B' (some ad) [kn]) (hle : (ks.length + 1) * 36 ≤ 140737488355328) (hB : B ≤ w.heap.size) :
    ∃ v' w', (Builtin.append_ #[26, 26] ty #[v, .slice (some ad) 1 c]).run Tryd.prog w = .ok v' w' ∧ OwnK w' B v' (ks ++ [kn]) ∧ w.grownBy w' v.ownBlock ∧ (∀ A' n' c', v = .slice A' n' c' → RdK w' w'.heap.size A' ks) := by
  obtain ⟨v', w', hrun, own', h3⟩ := run_app w ty B v ks hown B' (some ad) 1 c [kn] rfl hr hle hB
  refine ⟨v', w', hrun, own', h3, fun A' n' c' e => ?_⟩
  subst e
  have hin := key_info
  simp only [Option.map_eq_some_iff, Prod.mk.injEq] at hin
  obtain ⟨i, hi, hz, hs, hb⟩ := hin
  have hcells : ∀ j u, (flat [kn])[j]? = some u → w.cell? (ad.add j) = some u := fun j u hu => by
    obtain ⟨ad', e, _, hc⟩ := hr.is.2 (by simp)
    injection e with e
    subst e
    exact hc j u hu
  have hl : (flat [kn]).length = 1 * i.size := by rw [hs]; exact hr.is.1
  rcases hown.own.2 with ⟨e, h0⟩ | ⟨g, cap, cur, e, hbg, hg, hnc, hcm, hcs, htake⟩
  · injection e with e1 e2 e3
    subst e1
    obtain rfl : ks = [] := List.length_eq_zero_iff.1 h0
    exact RdK.none _ _
  · injection e with e1 e2 e3
    subst e1 e2 e3
    have hglt : g < w.heap.size := by
      rcases Nat.lt_or_ge g w.heap.size with hlt | hge
      · exact hlt
      · rw [Array.getElem?_eq_none hge] at hg; cases hg
    have hgl' : g < w'.heap.size := Nat.lt_of_lt_of_le hglt h3.size
    by_cases hroom : ks.length + 1 ≤ c'
    · have hr1 := run_append_room (P := Tryd.prog) w 26 ty 25 i und_keys hi g ks.length c' cur hg ad 1 c (flat [kn]) hl hcells (one_flat _) hroom (by rw [hl, hs, hcs]; omega)
      rw [hr1] at hrun
      injection hrun with e1 e2
      subst e1
      refine ⟨hown.len, hown.own.1, fun _ => ⟨_, rfl, hgl', fun j u hu => ?_⟩⟩
      refine own'.own.cells (g := g) rfl j u ?_
      simp only [flat, List.flatMap_append]
      rw [List.getElem?_append_left]
      · exact hu
      · exact (List.getElem?_eq_some_iff.1 hu).1
    · have hr2 := run_append_grow (P := Tryd.prog) w 26 ty 25 i _ und_keys hi hz ⟨g, 0, none⟩ ks.length c' (flat ks) (by rw [hs]; exact hown.own.1) (hown.own.cells (g := g) rfl) ad 1 c (flat [kn]) hl hcells (by omega) (by omega) (growslice_fits (by omega) (by rw [hb]; omega))
      rw [hr2] at hrun
      injection hrun with e1 e2
      subst e2
      have hB2 := (Below.refl w.heap.size w).drew.alloc (Nat.le_refl _) (.cells ((flat ks).toArray ++ (flat [kn]).toArray ++ Builtin.zeroCells (Value.agg (arr (List.replicate 36 0))).cells (grownCap w (ks.length + 1) c' 25 - (ks.length + 1))) 25)
      have h1 : RdK w w.heap.size (some ⟨g, 0, none⟩) ks := ⟨hown.len, hown.own.1, fun _ => ⟨_, rfl, hglt, hown.own.cells (g := g) rfl⟩⟩
      exact (h1.below hB2).more hB2.size
/-- A slice of one key is made. -/
theorem build1 {w : World} {o : Oper} {ρ : Operand → Value} {x : Operand} (ho : o.op = .buildSlice 26 1 #[(0, x)]) (k : List UInt8) (hk : k.length = 36) (hx : ρ x = .agg (arr k)) :
    (execOp ρ o).run Tryd.prog w = .ok (.value (.slice (some ⟨w.heap.size, 0, none⟩) 1 1)) (w.alloc (.cells (arr k) 25)) := by
  have hz := zero36
  have hin : ∃ i, Tryd.prog.info? 25 = some i ∧ i.zero = some (.agg (arr (List.replicate 36 0))) := by
    cases hq : Tryd.prog.info? 25 with
    | none => simp [hq] at hz
    | some i => exact ⟨i, rfl, by simpa [hq] using hz⟩
  obtain ⟨i, hi, hzi⟩ := hin
  have hzv : (zeroValue 25).run Tryd.prog w = .ok (.agg (arr (List.replicate 36 0))) w := by simp [zeroValue, typeInfo, hi, hzi]
  have hfill : ∀ cells : Array Value, cells.size = 36 → Instr.fill (fun i => some (i * 36, 36)) cells [(0, .agg (arr k))] = some (arr k) := fun cells hc => by
    rw [fill_cons _ _ 0 0 36 _ _ rfl (by show (arr k).size = 36; rw [arr_size, hk]) (by omega), Instr.fill]
    congr 1
    rw [splice_all cells _ (by show (arr k).toList.length = _; rw [Array.length_toList, arr_size, hk, hc])]
    show (arr k).toList.toArray = arr k
    simp
  unfold execOp
  simp only [ho]
  unfold Instr.buildSlice
  generalize Instr.fill = F at hfill ⊢
  simp [run_underlying und_keys, run_sizeOf sz36, hzv, hx, go_sem]
  rw [hfill _ (by simp)]
  simp [go_sem]
theorem call_app {P : Program} {w w' : World} {o : Oper} {ρ : Operand → Value} {s x : Operand} {t : TypeId} {v u v' : Value} (ho : o.op = .call { callee := .builtin .append, args := #[s, x], argTypes := #[t, t] }) (hs : ρ s = v) (hx : ρ x = u) (h : (Builtin.append_ #[t, t] o.type #[v, u]).run P w = .ok v' w') : (execOp ρ o).run P w = .ok (.value v') w' := by
  unfold execOp
  simp only [ho, resolve, invoke, builtin, Sem.run_bind, Sem.run_pure, Result.andThen_ok, List.map_toArray, List.map_cons, List.map_nil, hs, hx, h]
end Tk
end Go.Proofs.YthigbggacgiamaaDoor
