/-
  strings.Trim at a set of letters, walked; laws of strings.
-/
import Derived.Test.YtncaplplkfihgaaGreatDoorSlices
import Derived.Test.YtncaplplkfihgaaGreatDoorShelf
import Derived.Test.YtncaplplkfihgaaGreatDoorRow
import Derived.Laws.Strings2
import Derived.Deep.RegionWith
import Derived.Deep.DeepCutAuto
set_option linter.unusedVariables false
set_option linter.unusedSimpArgs false
set_option maxRecDepth 100000
namespace Go.Proofs.YtncaplplkfihgaaGreatDoor
open Go.RowKit
section
variable {P : Program} {w : World} {o : Oper} {ρ : Operand → Value} {x y z : Operand} {t : TypeId}
theorem str_get (l : List UInt8) (k : Nat) (h : k < (str l).size) : (str l)[k]'h = nth l k := by
  have hk : k < l.length := by rw [str_size] at h; exact h
  unfold nth
  rw [List.getD_eq_getElem?_getD, List.getElem?_eq_getElem hk]
  rfl
theorem str_extract (l : List UInt8) (a b : Nat) : (str l).extract a b = str ((l.drop a).take (b - a)) := by
  unfold str
  rw [Lib.extract_mk]
theorem run_idxS (ho : o.op = .index t x y) (ht : P.underlying t = some .string) (l : List UInt8) (k : Nat) (hx : ρ x = .string (str l)) (hy : ρ y = .int .i64 (k : Int)) (hk : k < l.length) : (execOp ρ o).run P w = .ok (.value (.int .u8 ((n8 (nth l k) : Nat) : Int))) w := by
  have h1 : k < (str l).size := by rw [str_size]; exact hk
  have h3 : (str l)[k]? = some (nth l k) := by rw [getElem?_pos (str l) k h1, str_get l k h1]
  have h4 : (Instr.index t (.string (str l)) (.int .i64 (k : Int))).run P w = .ok (.int .u8 ((n8 (nth l k) : Nat) : Int)) w := by
    unfold Instr.index
    simp [asIntOf, Sem.run_bind, run_underlying ht, h3, n8]
  unfold execOp
  simp only [ho, hx, hy, Sem.run_bind, h4, Result.andThen_ok]
  rfl
theorem run_lenS (ho : o.op = .call { callee := .builtin .len, args := #[x], argTypes := #[t] }) (ht : P.underlying t = some .string) (l : List UInt8) (hx : ρ x = .string (str l)) : (execOp ρ o).run P w = .ok (.value (.int .i64 ((l.length : Nat) : Int))) w := by
  have h := str_size l
  have h4 : (Builtin.len_ #[t] o.type #[.string (str l)]).run P w = .ok (.int .i64 ((l.length : Nat) : Int)) w := by
    unfold Builtin.len_
    simp [Sem.run_bind, run_underlying ht, goInt, h]
  unfold execOp
  simp only [ho]
  simp [go_sem, hx, h4]
theorem run_cutS (ho : o.op = .slice t x (some y) (some z) none) (ht : P.underlying t = some .string) (l : List UInt8) (a b : Nat) (hx : ρ x = .string (str l)) (hy : ρ y = .int .i64 (a : Int)) (hz : ρ z = .int .i64 (b : Int)) (hab : a ≤ b) (hb : b ≤ l.length) :
    (execOp ρ o).run P w = .ok (.value (.string (str ((l.drop a).take (b - a))))) w := by
  have h := run_slice_string (P := P) w t (str l) .i64 .i64 (a : Int) (b : Int) ht (by omega) (by omega) (by rw [str_size]; omega)
  rw [Int.toNat_natCast, Int.toNat_natCast, str_extract] at h
  have h4 : (Instr.sliceAt t (.string (str l)) (some (.int .i64 (a : Int))) (some (.int .i64 (b : Int))) none).run P w = .ok (.string (str ((l.drop a).take (b - a)))) w := by
    unfold Instr.sliceAt
    rw [Sem.run_bind, run_underlying ht]
    exact h
  unfold execOp
  simp only [ho, hx, Option.map_some, Option.map_none, hy, hz, Sem.run_bind, h4, Result.andThen_ok]
  rfl
theorem run_fromS (ho : o.op = .slice t x (some y) none none) (ht : P.underlying t = some .string) (l : List UInt8) (a : Nat) (hx : ρ x = .string (str l)) (hy : ρ y = .int .i64 (a : Int)) (ha : a ≤ l.length) :
    (execOp ρ o).run P w = .ok (.value (.string (str (l.drop a)))) w := by
  have h1 : a ≤ (str l).size := by rw [str_size]; exact ha
  have h4 : (Instr.sliceAt t (.string (str l)) (some (.int .i64 (a : Int))) none none).run P w = .ok (.string (str (l.drop a))) w := by
    unfold Instr.sliceAt
    rw [Sem.run_bind, run_underlying ht]
    simp only [Result.andThen_ok]
    simp [Instr.slice, Instr.sliceBounds, Instr.sliceBound, asIntOf, run_underlying ht, h1]
    rw [str_extract, str_size, List.take_of_length_le (by simp)]
  unfold execOp
  simp only [ho, hx, Option.map_some, Option.map_none, hy, Sem.run_bind, h4, Result.andThen_ok]
  rfl
theorem run_toS (ho : o.op = .slice t x none (some y) none) (ht : P.underlying t = some .string) (l : List UInt8) (b : Nat) (hx : ρ x = .string (str l)) (hy : ρ y = .int .i64 (b : Int)) (hb : b ≤ l.length) :
    (execOp ρ o).run P w = .ok (.value (.string (str ((l.drop 0).take (b - 0))))) w := by
  have h1 : b ≤ (str l).size := by rw [str_size]; exact hb
  have h4 : (Instr.sliceAt t (.string (str l)) none (some (.int .i64 (b : Int))) none).run P w = .ok (.string (str ((l.drop 0).take (b - 0)))) w := by
    unfold Instr.sliceAt
    rw [Sem.run_bind, run_underlying ht]
    simp only [Result.andThen_ok]
    rw [← str_extract]
    simp [Instr.slice, Instr.sliceBounds, Instr.sliceBound, asIntOf, run_underlying ht, h1]
  unfold execOp
  simp only [ho, hx, Option.map_some, Option.map_none, hy, Sem.run_bind, h4, Result.andThen_ok]
  rfl
end
/-- Trimmed on the right. -/
def trimR (f : UInt8 → Bool) (l : List UInt8) : List UInt8 := (l.reverse.dropWhile f).reverse
theorem trimR_snoc (f : UInt8 → Bool) (l : List UInt8) (x : UInt8) : trimR f (l ++ [x]) = if f x then trimR f l else l ++ [x] := by
  unfold trimR
  rw [List.reverse_append, List.reverse_singleton, List.singleton_append, List.dropWhile_cons]
  split <;> simp
/-- Is a letter in a set? -/
def inSet (cs : List UInt8) (x : UInt8) : Bool := cs.contains x
theorem set_cell {w : World} {b : Nat} {cs : List UInt8} (hb : Blk w b 65 (Lib.setCells cs)) (x : UInt8) : w.cell? ⟨b, x.toNat, none⟩ = some (.bool (inSet cs x)) :=
  (hb.cell x.toNat).trans (Lib.setCells_at cs x)
theorem trimLeft_any (b : Nat) (cs l : List UInt8) (w : World) (hb : Blk w b 65 (Lib.setCells cs)) :
    Calls Tryz.prog 44 #[.string (str l), .pointer (some ⟨b, 0, none⟩)] w fun e w' => e = .returned (.string (str (l.dropWhile (inSet cs)))) ∧ w' = w := by
  have HS := hd (fun x => set_cell hb x)
  clear hb
  go_enter Tryz.func44, Tryz.ntmps44
  go_wp2
  go_loop [0] (fun v => ∃ m : List UInt8, v = .string (str m) ∧ m.dropWhile (inSet cs) = l.dropWhile (inSet cs)) (fun v => Lib.strSize v)
  case atStart => exact ⟨l, rfl, rfl⟩
  case round =>
    obtain ⟨m, rfl, hm⟩ := hrel
    have Hm := hd hm
    clear hm
    cases m with
    | nil =>
      go_wp2
      go_ret
      exact ⟨by rw [← Hm.out]; rfl, rfl⟩
    | cons x r =>
      obtain ⟨n, Hn⟩ : ∃ n, Hd ((x :: r).length = n) := ⟨_, ⟨rfl⟩⟩
      have t1 : (0 : Int) < (n : Int) := by have := Hn.out; simp only [List.length_cons] at this; omega
      cases hc : inSet cs x
      · go_wp2_with (first
          | (go_at_call 57; refine (Tryz.asciiSet_contains b x false w (hc ▸ HS.out x)).mono ?_; rintro e w' ⟨rfl, rfl⟩)
          | (refine wpl_run (o := ⟨some 10, _, _, _, _, _⟩) (by simp [Region.wanted, yielded, Act.put]) (.int .u8 ((n8 x : Nat) : Int)) (run_idxS (by rfl) Tryz.underlying9 (x :: r) 0 (by simp [Act.eval, Act.put]) (by simp [Act.eval, Act.put]) (by simp)) ?_)
          | (refine wpl_run (o := ⟨some 6, _, _, _, _, _⟩) (by simp [Region.wanted, yielded, Act.put]) (.int .i64 ((n : Nat) : Int)) (Hn.out ▸ run_lenS (by rfl) Tryz.underlying9 (x :: r) (by simp [Act.eval, Act.put])) ?_))
        go_ret
        exact ⟨by rw [← Hm.out, List.dropWhile_cons, hc]; rfl, rfl⟩
      · go_wp2_with (first
          | (refine wpl_run (o := ⟨some 14, _, _, _, _, _⟩) (by simp [Region.wanted, yielded, Act.put]) (.string (str r)) (run_fromS (by rfl) Tryz.underlying9 (x :: r) 1 (by simp [Act.eval, Act.put]) (by simp [Act.eval, Act.put]) (by simp)) ?_)
          | (go_at_call 57; refine (Tryz.asciiSet_contains b x true w (hc ▸ HS.out x)).mono ?_; rintro e w' ⟨rfl, rfl⟩)
          | (refine wpl_run (o := ⟨some 10, _, _, _, _, _⟩) (by simp [Region.wanted, yielded, Act.put]) (.int .u8 ((n8 x : Nat) : Int)) (run_idxS (by rfl) Tryz.underlying9 (x :: r) 0 (by simp [Act.eval, Act.put]) (by simp [Act.eval, Act.put]) (by simp)) ?_)
          | (refine wpl_run (o := ⟨some 6, _, _, _, _, _⟩) (by simp [Region.wanted, yielded, Act.put]) (.int .i64 ((n : Nat) : Int)) (Hn.out ▸ run_lenS (by rfl) Tryz.underlying9 (x :: r) (by simp [Act.eval, Act.put])) ?_))
        refine ⟨⟨r, rfl, ?_⟩, ?_⟩
        · rw [← Hm.out, List.dropWhile_cons, hc]; rfl
        · rw [Lib.strSize_string, Lib.strSize_string, str_size, str_size]; simp
theorem trimRight_any (b : Nat) (cs l : List UInt8) (hl : l.length ≤ 9223372036854775807) (w : World) (hb : Blk w b 65 (Lib.setCells cs)) :
    Calls Tryz.prog 45 #[.string (str l), .pointer (some ⟨b, 0, none⟩)] w fun e w' => e = .returned (.string (str (trimR (inSet cs) l))) ∧ w' = w := by
  have Hl := hd hl
  clear hl
  have HS := hd (fun x => set_cell hb x)
  clear hb
  go_enter Tryz.func45, Tryz.ntmps45
  go_wp2
  go_loop [0] (fun v => ∃ m : List UInt8, v = .string (str m) ∧ trimR (inSet cs) m = trimR (inSet cs) l ∧ m.length ≤ l.length) (fun v => Lib.strSize v)
  case atStart => exact ⟨l, rfl, rfl, Nat.le_refl _⟩
  case round =>
    obtain ⟨m, rfl, hm, hml⟩ := hrel
    have Hm := hd hm
    have Hml := hd hml
    clear hm hml
    rcases List.eq_nil_or_concat m with e | ⟨r, x, e⟩
    · subst e
      go_wp2
      go_ret
      exact ⟨by rw [← Hm.out]; rfl, rfl⟩
    · obtain rfl : m = r ++ [x] := by rw [e, List.concat_eq_append]
      clear e
      obtain ⟨k, Hk⟩ : ∃ n, Hd (r.length = n) := ⟨_, ⟨rfl⟩⟩
      have Hn := hd (show (r ++ [x]).length = k + 1 by rw [List.length_append, Hk.out]; rfl)
      have Hx := hd (show nth (r ++ [x]) k = x by rw [← Hk.out]; simp [nth])
      have Hr := hd (show (((r ++ [x]).drop 0).take (k - 0)) = r by rw [← Hk.out]; simp)
      obtain ⟨m, HM⟩ : ∃ m, Hd (r ++ [x] = m) := ⟨_, ⟨rfl⟩⟩
      rw [HM.out] at Hn Hx Hr Hm Hml ⊢
      have wk : IntKind.i64.wrap (((k + 1 : Nat) : Int) - 1) = (k : Int) := by rw [IntWalk.i64_in _ (by have := Hn.out; have := Hml.out; have := Hl.out; omega)]; omega
      have wk' : IntKind.i64.wrap ((k : Int) + 1 - 1) = (k : Int) := by rw [IntWalk.i64_in _ (by have := Hn.out; have := Hml.out; have := Hl.out; omega)]; omega
      have kb : (k : Int) + 1 ≤ 9223372036854775807 := by have := Hn.out; have := Hml.out; have := Hl.out; omega
      have ke : (k : Int) + 1 - 1 = (k : Int) := by omega
      cases hc : inSet cs x
      · go_wp2_with (first
          | (go_at_call 57; refine (Tryz.asciiSet_contains b x false w (hc ▸ HS.out x)).mono ?_; rintro e w' ⟨rfl, rfl⟩)
          | (refine wpl_run (o := ⟨some 13, _, _, _, _, _⟩) (by simp [Region.wanted, yielded, Act.put]) (.int .u8 ((n8 x : Nat) : Int)) (Hx.out ▸ run_idxS (by rfl) Tryz.underlying9 m k (by simp [Act.eval, Act.put]) (by simp [Act.eval, Act.put]) (by rw [Hn.out]; omega)) ?_)
          | (refine wpl_run (o := ⟨some 11, _, _, _, _, _⟩) (by simp [Region.wanted, yielded, Act.put]) (.int .i64 ((k + 1 : Nat) : Int)) (Hn.out ▸ run_lenS (by rfl) Tryz.underlying9 m (by simp [Act.eval, Act.put])) ?_)
          | (refine wpl_run (o := ⟨some 6, _, _, _, _, _⟩) (by simp [Region.wanted, yielded, Act.put]) (.int .i64 ((k + 1 : Nat) : Int)) (Hn.out ▸ run_lenS (by rfl) Tryz.underlying9 m (by simp [Act.eval, Act.put])) ?_))
        go_ret
        exact ⟨by rw [← Hm.out, ← HM.out, trimR_snoc, hc]; rfl, rfl⟩
      · go_wp2_with (first
          | (refine wpl_run (o := ⟨some 20, _, _, _, _, _⟩) (by simp [Region.wanted, yielded, Act.put]) (.string (str r)) (Hr.out ▸ run_toS (by rfl) Tryz.underlying9 m k (by simp [Act.eval, Act.put]) (by simp [Act.eval, Act.put]) (by rw [Hn.out]; omega)) ?_)
          | (refine wpl_run (o := ⟨some 18, _, _, _, _, _⟩) (by simp [Region.wanted, yielded, Act.put]) (.int .i64 ((k + 1 : Nat) : Int)) (Hn.out ▸ run_lenS (by rfl) Tryz.underlying9 m (by simp [Act.eval, Act.put])) ?_)
          | (go_at_call 57; refine (Tryz.asciiSet_contains b x true w (hc ▸ HS.out x)).mono ?_; rintro e w' ⟨rfl, rfl⟩)
          | (refine wpl_run (o := ⟨some 13, _, _, _, _, _⟩) (by simp [Region.wanted, yielded, Act.put]) (.int .u8 ((n8 x : Nat) : Int)) (Hx.out ▸ run_idxS (by rfl) Tryz.underlying9 m k (by simp [Act.eval, Act.put]) (by simp [Act.eval, Act.put]) (by rw [Hn.out]; omega)) ?_)
          | (refine wpl_run (o := ⟨some 11, _, _, _, _, _⟩) (by simp [Region.wanted, yielded, Act.put]) (.int .i64 ((k + 1 : Nat) : Int)) (Hn.out ▸ run_lenS (by rfl) Tryz.underlying9 m (by simp [Act.eval, Act.put])) ?_)
          | (refine wpl_run (o := ⟨some 6, _, _, _, _, _⟩) (by simp [Region.wanted, yielded, Act.put]) (.int .i64 ((k + 1 : Nat) : Int)) (Hn.out ▸ run_lenS (by rfl) Tryz.underlying9 m (by simp [Act.eval, Act.put])) ?_))
        refine ⟨⟨r, rfl, ?_, ?_⟩, ?_⟩
        · rw [← Hm.out, ← HM.out, trimR_snoc, hc]; rfl
        · have := Hn.out; have := Hml.out; have := Hk.out; omega
        · rw [Lib.strSize_string, Lib.strSize_string, str_size, str_size, Hn.out, Hk.out]; omega
theorem run_eqlS {P : Program} {ρ : Operand → Value} {o : Oper} {x y : Operand} {t rt : TypeId} (ho : o.op = .binOp .eql t x y rt) (l m : List UInt8) (hx : ρ x = .string (str l)) (hy : ρ y = .string (str m)) (w : World) :
    (execOp ρ o).run P w = .ok (.value (.bool (decide (l = m)))) w := by
  unfold execOp
  have eg : (eqGuard .eql t x y (.string (str l)) (.string (str m))).run P w = .ok () w := rfl
  simp only [ho, hx, hy, Sem.run_bind]
  rw [eg, Result.andThen_ok, run_str_eql]
  rfl
theorem set_zero : (Tryz.prog.info? 65).bind (·.zero) = some (.agg (Array.replicate 256 (.bool false))) := by kernel_rfl
theorem set_size : (Tryz.prog.info? 65).map (·.size) = some 256 := by kernel_rfl
set_option maxHeartbeats 4000000 in
/-- strings.Trim at a set of two letters or more. -/
theorem trim_any (cs l : List UInt8) (hcs : 2 ≤ cs.length) (hcm : cs.length ≤ 1000) (h128 : ∀ b ∈ cs, b.toNat < 128) (hl : l.length ≤ 9223372036854775807) (w : World) :
    Calls Tryz.prog 33 #[.string (str l), .string (str cs)] w fun e w' => e = .returned (.string (str ((trimR (inSet cs) l).dropWhile (inSet cs)))) ∧ Below w.heap.size w w' := by
  have Hl := hd hl
  have Hcs := hd hcs
  have Hcm := hd hcm
  clear hl hcs hcm
  cases l with
  | nil =>
    go_enter Tryz.func33, Tryz.ntmps33
    go_wp2_with (first | (with_reducible change wpList _ _ _ (⟨some 8, _, _, _, _, _⟩ :: _) _ _; refine wpl_run (o := ⟨some 8, _, _, _, _, _⟩) (by simp [Region.wanted, yielded, Act.put]) (.bool true) (run_eqlS (by rfl) [] [] (by simp [Act.eval, Act.put]) (by simp [Act.eval, Act.put, str]) _) ?_))
    go_ret
    exact ⟨rfl, Below.refl _ _⟩
  | cons x0 r0 =>
    obtain ⟨l, HL⟩ : ∃ m, Hd (x0 :: r0 = m) := ⟨_, ⟨rfl⟩⟩
    have HL0 := hd (show decide (l = []) = false by rw [← HL.out]; rfl)
    have HC0 := hd (show decide (cs = []) = false by have := Hcs.out; cases cs with | nil => simp at this | cons _ _ => rfl)
    rw [HL.out] at Hl ⊢
    clear HL
    obtain ⟨n, Hn⟩ : ∃ n, Hd (cs.length = n) := ⟨_, ⟨rfl⟩⟩
    have t1 : ¬ (n : Int) = 1 := by have := Hn.out; have := Hcs.out; omega
    have ed : (str cs).data.toList = cs := by simp [str]
    have HM := Tryz.strings_makeASCIISet (fun w => by kernel_rfl) (str cs) w (by rw [str_size]; have := Hcm.out; omega) (by rw [ed]; exact fun j b hb => h128 b (List.mem_of_getElem? hb))
    rw [ed] at HM
    have HMk := hd HM
    clear HM h128
    obtain ⟨w1, Hw1⟩ : ∃ y, Hd (w.alloc (.cells (Lib.setCells cs) 65) = y) := ⟨_, ⟨rfl⟩⟩
    have hB1 : Below w.heap.size w w1 := by rw [← Hw1.out]; exact (Below.refl _ _).alloc (Nat.le_refl _) _
    rw [Hw1.out] at HMk
    go_enter Tryz.func33, Tryz.ntmps33
    go_upto_region 6 with (first
      | (refine wpl_store rfl 65 _ _ rfl w1.heap.size 0 (Lib.setCells cs).toList rfl (by rw [Array.toArray_toList]; rfl) 65 _ (Blk.nu rfl) (by rw [set_size]; simp [Lib.setCells_size]) (by simp [Lib.setCells_size]) (fun v hv => List.all_eq_true.1 (by have h := Lib.setCells_one cs; simpa using h) v hv) ?_; rw [splice_all _ _ (by simp [Lib.setCells_size]), Array.toArray_toList]; refine wpl_name (fun wo => Blk wo w1.heap.size 65 (Lib.setCells cs) ∧ Below w1.heap.size w1 wo) ⟨(Blk.nu rfl).setRow _, below_setRow ((Below.refl _ _).alloc (Nat.le_refl _) _) (Nat.le_refl _) _⟩ ?_; rintro w2 ⟨b2, hB2⟩)
      | (refine wpl_alloc rfl 65 rfl _ set_zero ?_)
      | (go_at_call 43; refine HMk.out.mono ?_; rintro e w' ⟨rfl, e1⟩; rw [e1]; clear e1 w')
      | (with_reducible change wpList _ _ _ (⟨some 15, _, _, _, _, _⟩ :: _) _ _; refine wpl_run (o := ⟨some 15, _, _, _, _, _⟩) (by simp [Region.wanted, yielded, Act.put]) (.int .i64 ((n : Nat) : Int)) (Hn.out ▸ run_lenS (by rfl) Tryz.underlying9 cs (by simp [Act.eval, Act.put])) ?_)
      | (with_reducible change wpList _ _ _ (⟨some 11, _, _, _, _, _⟩ :: _) _ _; refine wpl_run (o := ⟨some 11, _, _, _, _, _⟩) (by simp [Region.wanted, yielded, Act.put]) (.bool false) (HC0.out ▸ run_eqlS (by rfl) cs [] (by simp [Act.eval, Act.put]) (by simp [Act.eval, Act.put, str]) _) ?_)
      | (with_reducible change wpList _ _ _ (⟨some 8, _, _, _, _, _⟩ :: _) _ _; refine wpl_run (o := ⟨some 8, _, _, _, _, _⟩) (by simp [Region.wanted, yielded, Act.put]) (.bool false) (HL0.out ▸ run_eqlS (by rfl) l [] (by simp [Act.eval, Act.put]) (by simp [Act.eval, Act.put, str]) _) ?_))
    obtain ⟨g, Hg⟩ : ∃ y, Hd (w1.heap.size = y) := ⟨_, ⟨rfl⟩⟩
    rw [Hg.out] at b2 ⊢
    have HR := hd (trimRight_any g cs l Hl.out w2 b2)
    have HL := hd (trimLeft_any g cs (trimR (inSet cs) l) w2 b2)
    have hB := hB1.trans (hB2.mono hB1.size)
    clear b2 hB2 HMk
    go_wp2_with (first
      | (go_at_call 44; refine HL.out.mono ?_; rintro e w' ⟨rfl, e1⟩; rw [e1]; clear e1 w')
      | (go_at_call 45; refine HR.out.mono ?_; rintro e w' ⟨rfl, e1⟩; rw [e1]; clear e1 w'))
    go_ret
    exact ⟨rfl, hB⟩
end Go.Proofs.YtncaplplkfihgaaGreatDoor
