/-
  Laws for OpenTicket: keys, their comparison, two variables laid in any order.
-/
import Derived.Test.YthigbggacgiamaaDoorTkJ
import Derived.Laws.StructEq
set_option linter.unusedVariables false
set_option linter.unusedSimpArgs false
set_option maxRecDepth 100000
namespace Go.Proofs.YthigbggacgiamaaDoor
open Go.RowKit
namespace Tk
section
variable {P : Program} {w : World} {o : Oper} {ρ : Operand → Value} {x y : Operand} {t e rt : TypeId}
theorem allocR (ho : o.op = .alloc t) (cs : Array Value) (hz : (P.info? t).bind (·.zero) = some (.agg cs)) : (execOp ρ o).run P w = .ok (.value (.pointer (some ⟨w.heap.size, 0, none⟩))) (w.alloc (.cells cs t)) := by
  cases hq : P.info? t with
  | none => simp [hq] at hz
  | some i =>
    have hz' : i.zero = some (.agg cs) := by simpa [hq] using hz
    unfold execOp
    simp only [ho]
    simp [Instr.alloc, zeroValue, typeInfo, hq, hz', newVar, newRow, Value.cells]
theorem toArr {n : Nat} (ho : o.op = .sliceToArrayPointer t x) (b : Option Addr) (len cap : Nat) (hx : ρ x = .slice b len cap) (hu : P.underlying t = some (.array n e)) (hle : n ≤ len) : (execOp ρ o).run P w = .ok (.value (.pointer b)) w := by
  unfold execOp
  simp only [ho, hx]
  simp [run_arrayAt hu b len cap hle]
theorem index (ho : o.op = .indexAddr t x y) (ht : P.underlying t = some (.slice e)) {m : Nat} (hs : (P.info? e).map (·.size) = some m) (ad : Addr) (n c k : Nat)
    (hx : ρ x = .slice (some ad) n c) (hy : ρ y = .int .i64 (k : Int)) (hk : k < n) : (execOp ρ o).run P w = .ok (.value (.pointer (some (ad.add (k * m))))) w := by
  have hkn : (k : Int) < (n : Int) := by omega
  unfold execOp
  simp only [ho, hx, hy]
  simp [Instr.indexAt, run_underlying ht, asIntOf, run_sizeOf hs, hkn]
  omega
end
theorem par {P : Program} {ops : Array Oper} {Q : Exit → Act → World → Prop} {md : Region.Mode} {fuel : Nat} {listed : Array Bool} {a : Act} {g x : World → Prop} {oi oj : Oper} (i j di dj : Nat) {ti tj : TypeId} {ci cj : Array Value}
    (hr : Region.ready md ops listed = [i, j]) (hri : Region.ready md ops (listed.setIfInBounds i true) = [j]) (hrj : Region.ready md ops (listed.setIfInBounds j true) = [i]) (hij : i ≠ j) (hd : di ≠ dj)
    (hi : ops[i]? = some oi) (hj : ops[j]? = some oj) (hdi : oi.dst = some di) (hdj : oj.dst = some dj) (hgi : oi.guard = none) (hgj : oj.guard = none) (hoi : oi.op = .alloc ti) (hoj : oj.op = .alloc tj)
    (hzi : (P.info? ti).bind (·.zero) = some (.agg ci)) (hzj : (P.info? tj).bind (·.zero) = some (.agg cj)) (hg : ∀ W o, g W → g (W.alloc o))
    (h : ∀ W W' gi gj, g W → Blk W' gi ti ci → Blk W' gj tj cj → Below W.heap.size W W' → W.heap.size ≤ gi → W.heap.size ≤ gj → gi ≠ gj → g W' →
      Next P md ops Q fuel ((listed.setIfInBounds i true).setIfInBounds j true) g ((a.put (some di) (.pointer (some ⟨gi, 0, none⟩))).put (some dj) (.pointer (some ⟨gj, 0, none⟩))) W') :
    wpAnyV P md ops Q PW PR (fuel + 1 + 1) listed a (g, x) := by
  have hput : ∀ (u v : Value), (a.put (some dj) v).put (some di) u = (a.put (some di) u).put (some dj) v := fun u v => by
    obtain ⟨t, d⟩ := a
    show Act.mk ((t.setIfInBounds dj v).setIfInBounds di u) d = Act.mk ((t.setIfInBounds di u).setIfInBounds dj v) d
    rw [Array.setIfInBounds_comm _ _ (Ne.symm hd)]
  refine p_two i j hr (fun W hW _ => ?_) (fun W hW _ => ?_)
  · refine op_do hi (wanted_plain hgi) _ _ (allocR hoi ci hzi) ?_
    rw [hdi]
    refine Next.mk g (fun V => V = W.alloc (.cells ci ti)) (fun _ h => h) (hg _ _ hW) rfl ?_
    refine p_one j hri (fun V _ hV => ?_)
    subst hV
    refine op_do hj (wanted_plain hgj) _ _ (allocR hoj cj hzj) ?_
    rw [hdj]
    exact h W _ _ _ hW ((Blk.nu rfl).alloc _) (Blk.nu rfl) (((Below.refl _ W).alloc (Nat.le_refl _) _).alloc (by rw [alloc_size]; omega) _) (Nat.le_refl _) (by rw [alloc_size]; omega) (by rw [alloc_size]; omega) (hg _ _ (hg _ _ hW))
  · refine op_do hj (wanted_plain hgj) _ _ (allocR hoj cj hzj) ?_
    rw [hdj]
    refine Next.mk g (fun V => V = W.alloc (.cells cj tj)) (fun _ h => h) (hg _ _ hW) rfl ?_
    refine p_one i hrj (fun V _ hV => ?_)
    subst hV
    refine op_do hi (wanted_plain hgi) _ _ (allocR hoi ci hzi) ?_
    rw [hdi, hput, Array.setIfInBounds_comm _ _ (Ne.symm hij)]
    exact h W _ _ _ hW (Blk.nu rfl) ((Blk.nu rfl).alloc _) (((Below.refl _ W).alloc (Nat.le_refl _) _).alloc (by rw [alloc_size]; omega) _) (by rw [alloc_size]; omega) (Nat.le_refl _) (by rw [alloc_size]; omega) (hg _ _ (hg _ _ hW))
theorem arr_app (a b : List UInt8) : arr a ++ arr b = arr (a ++ b) := by
  apply Array.ext'
  simp [arr]
theorem arr_ext (l : List UInt8) (i j : Nat) (hj : j ≤ l.length) : (arr l).extract i j = arr ((l.drop i).take (j - i)) := by
  apply Array.ext'
  simp [arr, List.map_take, List.map_drop, List.extract_eq_drop_take']
theorem fields_key : (Tryd.prog.fieldsOf 25).toList.map (fun f => (f.name != "_", f.type, f.offset)) = [(true, 22, 0), (true, 23, 4)] := by kernel_rfl
theorem run_part_arr {P : Program} {w : World} {t : TypeId} {n : Nat} (ht : AggT P t n) (hs : (P.info? t).map (·.size) = some n) (l : List UInt8) (off : Nat) (h : off + n ≤ l.length)   : (Go.part t (arr l) off).run P w = .ok (.agg (arr ((l.drop off).take n))) w := by
  simp only [Go.part, Sem.run_bind, run_isAgg ht, Result.andThen_ok, if_true, run_sizeOf hs, Sem.run_pure]
  rw [arr_ext l off (off + n) h, Nat.add_sub_cancel_left]
theorem agg4 : AggT Tryd.prog 22 4 := ⟨by kernel_rfl, by kernel_rfl⟩
theorem agg32 : AggT Tryd.prog 23 32 := ⟨by kernel_rfl, by kernel_rfl⟩
theorem agg36 : AggT Tryd.prog 25 36 := ⟨by kernel_rfl, by kernel_rfl⟩
theorem guardKey : Tryd.prog.eqGuardType Tryd.prog.depth 25 = false := by kernel_rfl
theorem eqKey (n1 n2 k : List UInt8) (h1 : n1.length = 4) (h2 : n2.length = 4) (hk : k.length = 32) (w : World) : (Op.equalIn 10000 25 (.agg (arr (n1 ++ k))) (.agg (arr (n2 ++ k)))).run Tryd.prog w = .ok (decide (n1 = n2)) w := by
  have hu : Tryd.prog.underlying 25 = some (.struct (Tryd.prog.fieldsOf 25)) := by kernel_rfl
  have hp : Tryd.prog.stoodInHeld 25 = false := by kernel_rfl
  rw [show (10000 : Nat) = 9999 + 1 from rfl, run_equalIn_struct w 9999 25 _ _ hu hp]
  have hf := fields_key
  generalize (Tryd.prog.fieldsOf 25).toList = fs at hf
  have hl : fs.length = 2 := by have := congrArg List.length hf; simpa using this
  obtain ⟨f0, f1, rfl⟩ : ∃ f0 f1, fs = [f0, f1] := by
    cases fs with
    | nil => simp at hl
    | cons a r =>
      cases r with
      | nil => simp at hl
      | cons b r =>
        cases r with
        | nil => exact ⟨a, b, rfl⟩
        | cons _ _ => simp at hl
  simp only [List.map_cons, List.map_nil, List.cons.injEq, Prod.mk.injEq, and_true, bne_iff_ne, ne_eq] at hf
  obtain ⟨⟨a1, a2, a3⟩, b1, b2, b3⟩ := hf
  have p1 := run_part_arr (w := w) agg4 agg4.size (n1 ++ k) 0 (by rw [List.length_append, h1, hk]; omega)
  have p2 := run_part_arr (w := w) agg4 agg4.size (n2 ++ k) 0 (by rw [List.length_append, h2, hk]; omega)
  have p3 := run_part_arr (w := w) agg32 agg32.size (n1 ++ k) 4 (by rw [List.length_append, h1, hk]; omega)
  have p4 := run_part_arr (w := w) agg32 agg32.size (n2 ++ k) 4 (by rw [List.length_append, h2, hk]; omega)
  rw [List.drop_zero, List.take_left' h1] at p1
  rw [List.drop_zero, List.take_left' h2] at p2
  rw [List.drop_left' h1, List.take_of_length_le (Nat.le_of_eq hk)] at p3
  rw [List.drop_left' h2, List.take_of_length_le (Nat.le_of_eq hk)] at p4
  have e1 : (Op.equalIn 9999 22 (.agg (arr n1)) (.agg (arr n2))).run Tryd.prog w = .ok (decide (n1 = n2)) w := run_equalIn_arr w 9997 Tryd.underlying22 Tryd.underlying5 one8 n1 n2 h1 h2
  have e2 : (Op.equalIn 9999 23 (.agg (arr k)) (.agg (arr k))).run Tryd.prog w = .ok (decide (k = k)) w := run_equalIn_arr w 9997 Tryd.underlying23 Tryd.underlying5 one8 k k hk hk
  simp only [Op.eqFields, a1, b1, a2, a3, b2, b3, not_false_eq_true, if_true, Sem.run_bind, p1, p2, p3, p4, e1, e2, Result.andThen_ok, ne_eq]
  by_cases h : n1 = n2
  · subst h
    rw [show (!decide (n1 = n1)) = false by rw [decide_eq_true rfl]; rfl, if_neg Bool.false_ne_true, Sem.run_bind, p3, Result.andThen_ok, Sem.run_bind, p3, Result.andThen_ok, Sem.run_bind, e2, Result.andThen_ok]
    rw [show (!decide (k = k)) = false by rw [decide_eq_true rfl]; rfl, if_neg Bool.false_ne_true, decide_eq_true rfl, Sem.run_pure]
  · simp [h]
/-- A key is compared with one of this name and its own bytes. -/
theorem neKey {w : World} {o : Oper} {ρ : Operand → Value} {x y : Operand} {rt : TypeId} (ho : o.op = .binOp .neq 25 x y rt) (n1 n2 k : List UInt8) (h1 : n1.length = 4) (h2 : n2.length = 4) (hk : k.length = 32) (b : Bool) (hb : (!decide (n1 = n2)) = b)
    (hx : ρ x = .agg (arr (n1 ++ k))) (hy : ρ y = .agg (arr (n2 ++ k))) : (execOp ρ o).run Tryd.prog w = .ok (.value (.bool b)) w := by
  subst hb
  unfold execOp
  simp only [ho, hx, hy, Sem.run_bind, run_eqGuard_agg _ _ _ _ _ _ _ guardKey, run_neq_struct, eqKey n1 n2 k h1 h2 hk, Result.andThen_ok]
  rfl
theorem built_tk (parts : List (Nat × Value)) : Tryd.prog.built 25 parts = Instr.fill (fun i => (#[(0, 4), (4, 32)] : Array (Nat × Nat))[i]?) (arr (List.replicate 36 0)) parts := by kernel_rfl
theorem built_key2 (nm key : List UInt8) (hn : nm.length = 4) (hk : key.length = 32) : Tryd.prog.built 25 [(0, .agg (arr nm)), (1, .agg (arr key))] = some (arr (nm ++ key)) := by
  have hz : (List.replicate 36 (0 : UInt8)).length = 36 := List.length_replicate
  rw [built_tk]
  generalize List.replicate 36 (0 : UInt8) = Z at hz ⊢
  have h1 : (arr nm).toList.length = 4 := by rw [Array.length_toList, arr_size, hn]
  have h2 : (arr key).toList.length = 32 := by rw [Array.length_toList, arr_size, hk]
  have hZ : (arr Z).toList.length = 36 := by rw [Array.length_toList, arr_size, hz]
  have hs1 : (splice (arr Z) 0 (arr nm).toList).toList = (arr nm).toList ++ (arr Z).toList.drop 4 := by
    rw [splice, h1]; simp
  rw [fill_cons _ _ 0 0 4 _ _ rfl (by show (arr nm).size = 4; rw [arr_size, hn]) (by rw [arr_size, hz]; omega)]
  rw [fill_cons _ _ 1 4 32 _ _ rfl (by show (arr key).size = 32; rw [arr_size, hk]) (by
    have h : (splice (arr Z) 0 (arr nm).toList).toList.length = 36 := by rw [hs1, List.length_append, List.length_drop, h1, hZ]
    rw [Array.length_toList] at h
    show 4 + 32 ≤ (splice (arr Z) 0 (arr nm).toList).size
    omega)]
  rw [Instr.fill]
  congr 1
  show splice (splice (arr Z) 0 (arr nm).toList) 4 (arr key).toList = _
  rw [splice, hs1, h2, List.take_left' h1, List.drop_eq_nil_of_le (by rw [List.length_append, List.length_drop, h1, hZ]; omega), List.append_nil, ← arr_app]
  apply Array.ext'
  rw [Array.toList_append]
end Tk
end Go.Proofs.YthigbggacgiamaaDoor
