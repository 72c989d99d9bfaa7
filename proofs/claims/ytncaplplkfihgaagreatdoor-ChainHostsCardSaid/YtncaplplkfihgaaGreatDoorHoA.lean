/-
  Small letters, walked, of the program and of the reference; a letter.
-/
import Derived.Test.YtncaplplkfihgaaGreatDoorTrim
import Derived.Lib.ConvBytes
import Derived.Lib.AtoiErrMem
set_option linter.unusedVariables false
set_option linter.unusedSimpArgs false
set_option maxRecDepth 100000
namespace Go.Proofs.YtncaplplkfihgaaGreatDoor
open Go.RowKit
namespace Host
/-- A small letter for a great one. -/
def lowb (x : UInt8) : UInt8 := if 65 ≤ n8 x ∧ n8 x ≤ 90 then x ||| 32 else x
def low (l : List UInt8) : List UInt8 := l.map lowb
theorem low_add (x : UInt8) (h : 65 ≤ n8 x ∧ n8 x ≤ 90) : x ||| 32 = x + 32 := by
  have hall : (List.range 256).all (fun k => !(decide (65 ≤ n8 (UInt8.ofNat k)) && decide (n8 (UInt8.ofNat k) ≤ 90)) || (UInt8.ofNat k ||| 32 == UInt8.ofNat k + 32)) = true := by kernel_rfl
  have := List.all_eq_true.1 hall (n8 x) (List.mem_range.2 (n8_lt x))
  rw [show UInt8.ofNat (n8 x) = x from UInt8.ofNat_toNat] at this
  simpa [h.1, h.2] using this
/-- Half way. -/
def mid (l : List UInt8) (k : Nat) : List UInt8 := (l.take k).map lowb ++ l.drop k
theorem mid_len (l : List UInt8) (k : Nat) : (mid l k).length = l.length := by unfold mid; simp; omega
theorem mid_zero (l : List UInt8) : mid l 0 = l := by simp [mid]
theorem mid_all (l : List UInt8) (k : Nat) (h : l.length ≤ k) : mid l k = low l := by
  unfold mid low
  rw [List.take_of_length_le h, List.drop_eq_nil_of_le h, List.append_nil]
theorem mid_nth (l : List UInt8) (k : Nat) (h : k < l.length) : nth (mid l k) k = nth l k := by
  unfold mid nth
  simp only [List.getD_eq_getElem?_getD]
  rw [List.getElem?_append_right (by simp; omega)]
  simp [Nat.min_eq_left (Nat.le_of_lt h)]
theorem mid_step (l : List UInt8) (k : Nat) (h : k < l.length) : (mid l k).set k (lowb (nth l k)) = mid l (k + 1) := by
  have hd : l.drop k = nth l k :: l.drop (k + 1) := by
    rw [List.drop_eq_getElem_cons h]
    simp [nth, h]
  unfold mid
  rw [List.set_append_right _ _ (by simp; omega), take_next l k h, List.map_append, List.append_assoc]
  congr 1
  simp only [List.length_map, List.length_take, Nat.min_eq_left (Nat.le_of_lt h), Nat.sub_self]
  rw [hd]
  simp
theorem set_same (l : List UInt8) (k : Nat) : l.set k (nth l k) = l := by
  apply List.ext_getElem?
  intro i
  rw [List.getElem?_set]
  split
  · rename_i h
    subst h
    split
    · rename_i h2
      simp [nth, h2]
    · rename_i h2
      rw [List.getElem?_eq_none (by omega)]
  · rfl
end Host
/-- The bytes of a string, turned: a block g, its cells, that may be written. -/
structure Lt (w wr : World) (g : Nat) (m : List UInt8) : Prop where
  cells : ∀ j, j < m.length → wr.cell? ⟨g, j, none⟩ = some (.int .u8 ((n8 (nth m j) : Nat) : Int))
  frz : ∀ j, j < m.length → wr.frozen? ⟨g, j, none⟩ = false
  lt : g < wr.heap.size
  below : Below g w wr
theorem Lt.set {w wr : World} {g : Nat} {m : List UInt8} (h : Lt w wr g m) (k : Nat) (hk : k < m.length) (x : UInt8) : Lt w (wr.setCell ⟨g, k, none⟩ (.int .u8 ((n8 x : Nat) : Int))) g (m.set k x) := by
  refine ⟨fun j hj => ?_, fun j hj => ?_, by rw [World.size_setCell]; exact h.lt, h.below.setCell (Nat.le_refl _) _⟩
  · rw [List.length_set] at hj
    by_cases e : j = k
    · subst e
      rw [World.cell?_setCell_same (h := h.cells j hj)]
      simp [nth, hj]
    · rw [World.cell?_setCell_other (h := show (⟨g, k, none⟩ : Addr) ≠ ⟨g, j, none⟩ by intro e2; injection e2; omega), h.cells j hj]
      unfold nth
      simp only [List.getD_eq_getElem?_getD]
      rw [List.getElem?_set_ne (by omega)]
  · rw [List.length_set] at hj
    rw [World.frozen?_setCell]
    exact h.frz j hj
theorem Lt.reads {w wr : World} {g : Nat} {m : List UInt8} (h : Lt w wr g m) : ReadsB wr wr.heap.size (some ⟨g, 0, none⟩) m.length m := by
  refine ⟨rfl, by simp, fun _ => ⟨⟨g, 0, none⟩, rfl, h.lt, fun j u hu => ?_⟩⟩
  have hj : j < m.length := by
    rcases Nat.lt_or_ge j m.length with hlt | hge
    · exact hlt
    · rw [List.getElem?_eq_none (by simpa using hge)] at hu; cases hu
  have hadd : (⟨g, 0, none⟩ : Addr).add j = ⟨g, j, none⟩ := by unfold Addr.add; split <;> simp_all
  rw [hadd, h.cells j hj]
  rw [List.getElem?_map, List.getElem?_eq_getElem hj] at hu
  simp at hu
  rw [← hu]
  simp [nth, hj]
theorem Lt.new (w : World) (l : List UInt8) : Lt w (Lib.bytesWorld w 5 (str l)) w.heap.size l := by
  have ed : (str l).data.toList = l := by simp [str]
  have hs := str_size l
  refine ⟨fun j hj => ?_, fun j hj => ?_, by rw [Lib.bytesWorld_size]; omega, Lib.bytesWorld_below _ _ _⟩
  · rw [Lib.bytesWorld_cell w _ _ j (by rw [hs]; exact hj), ed]
    rfl
  · have h1 := Lib.bytesWorld_at_new w 5 (str l)
    have h2 : l.length ≤ (Lib.bytesCells w 5 (str l)).size := by
      unfold Lib.bytesCells
      rw [Array.size_append, Array.size_map]
      have : (str l).data.size = l.length := by simp [str]
      omega
    unfold World.frozen?
    rw [h1]
    simp
    omega
theorem run_bytesS {P : Program} {w : World} {o : Oper} {ρ : Operand → Value} {x : Operand} {t rt : TypeId} {e : TypeId} (ho : o.op = .convert t rt x) (ht : P.underlying t = some .string) (hd : P.underlying rt = some (.slice e)) (he : P.underlying e = some (.int .u8)) (l : List UInt8) (hx : ρ x = .string (str l)) :
    (execOp ρ o).run P w = .ok (.value (.slice (some ⟨w.heap.size, 0, none⟩) l.length (grownCap w l.length 0 e))) (Lib.bytesWorld w e (str l)) := by
  have h := Lib.run_convert_string_bytes (P := P) w t rt e (str l) ht hd he
  rw [str_size] at h
  unfold execOp
  simp only [ho, hx, Sem.run_bind, h, Result.andThen_ok]
  rfl
set_option maxHeartbeats 4000000 in
set_option maxRecDepth 100000 in
theorem lowered_any (l : List UInt8) (hl : l.length ≤ 9223372036854775800) (w : World) : Calls Tryz.prog 14 #[.string (str l)] w fun e w' => e = .returned (.string (str (Host.low l))) ∧ Below w.heap.size w w' := by
  have Hl := hd hl
  have H0 := hd (Lt.new w l)
  obtain ⟨n, Hn⟩ : ∃ z, Hd (l.length = z) := ⟨_, ⟨rfl⟩⟩
  have hn : (n : Int) ≤ 9223372036854775800 := by have := Hl.out; have := Hn.out; omega
  obtain ⟨c, Hc⟩ : ∃ z, Hd (grownCap w l.length 0 5 = z) := ⟨_, ⟨rfl⟩⟩
  obtain ⟨w1, Hw1⟩ : ∃ z, Hd (Lib.bytesWorld w 5 (str l) = z) := ⟨_, ⟨rfl⟩⟩
  have HCV := hd (fun (ρ : Operand → Value) (o : Oper) (x : Operand) (t rt : TypeId) (ho : o.op = .convert t rt x) (ht : Tryz.prog.underlying t = some .string) (hdd : Tryz.prog.underlying rt = some (.slice 5)) (hx : ρ x = .string (str l)) => (by have h := run_bytesS (P := Tryz.prog) (w := w) ho ht hdd Tryz.underlying5 l hx; rw [Hw1.out, Hc.out, Hn.out] at h; exact h : (execOp ρ o).run Tryz.prog w = .ok (.value (.slice (some ⟨w.heap.size, 0, none⟩) n c)) w1))
  rw [Hw1.out] at H0
  obtain ⟨g, Hg⟩ : ∃ z, Hd (w.heap.size = z) := ⟨_, ⟨rfl⟩⟩
  rw [Hg.out] at H0 HCV ⊢
  clear hl
  go_enter Tryz.func14, Tryz.ntmps14
  go_wp2_with (first
    | (with_reducible change wpList _ _ _ (⟨some 7, _, _, _, _, _⟩ :: _) _ _; refine wpl_run (o := ⟨some 7, _, _, _, _, _⟩) (by simp [Region.wanted, yielded, Act.put]) _ (HCV.out _ _ _ _ _ (by rfl) Tryz.underlying9 Tryz.underlying37 (by simp [Act.eval, Act.put])) ?_))
  go_loopw [10] (fun s wr => ∃ k : Nat, k ≤ n ∧ s = .int .i64 (k : Int) ∧ Lt w wr g (Host.mid l k)) (fun s _ => n - (intOf s).toNat)
  case atStart => exact ⟨0, Nat.zero_le _, rfl, by rw [Host.mid_zero]; exact H0.out⟩
  case round =>
    clear H0 HCV
    obtain ⟨k, hk, rfl, hL⟩ := hrel
    by_cases hlt : k < n
    · have t1 : (k : Int) < (n : Int) := by omega
      have hkl : k < l.length := by rw [Hn.out]; exact hlt
      have hcx := hL.cells k (by rw [Host.mid_len]; exact hkl)
      have hfx := hL.frz k (by rw [Host.mid_len]; exact hkl)
      rw [Host.mid_nth l k hkl] at hcx
      have hst := hL.set k (by rw [Host.mid_len]; exact hkl) (Host.lowb (nth l k))
      rw [Host.mid_step l k hkl] at hst
      have hsame : Host.lowb (nth l k) = nth l k → Lt w wr g (Host.mid l (k + 1)) := fun e => by
        have h := Host.mid_step l k hkl
        rw [e] at h
        rw [← h]
        have h2 := Host.set_same (Host.mid l k) k
        rw [Host.mid_nth l k hkl] at h2
        rw [h2]
        exact hL
      obtain ⟨x, Hx⟩ : ∃ z, Hd (nth l k = z) := ⟨_, ⟨rfl⟩⟩
      rw [Hx.out] at hcx hst hsame
      have Hst := hd hst
      have Hsame := hd hsame
      have wk : IntKind.i64.wrap ((k : Int) + 1) = (k : Int) + 1 := IntWalk.i64_in _ (by omega)
      clear hst hsame hL
      by_cases h65 : 65 ≤ n8 x
      · have q65 : (65 : UInt8) ≤ x := UInt8.le_iff_toNat_le.2 h65
        by_cases h90 : n8 x ≤ 90
        · have q90 : x ≤ 90 := UInt8.le_iff_toNat_le.2 h90
          have hlow := hd (show Host.lowb x = x ||| 32 by unfold Host.lowb; rw [if_pos ⟨h65, h90⟩])
          have hadd := hd (Host.low_add x ⟨h65, h90⟩)
          have hst := Hst.out
          rw [hlow.out] at hst
          clear h65 h90
          go_wp2
          go_roundw
          case rel => exact ⟨k + 1, by omega, by go_num, hst⟩
          case measure => simp [intOf]; omega
        · have q90 : ¬ x ≤ 90 := fun h => h90 (UInt8.le_iff_toNat_le.1 h)
          have hst := hd (Hsame.out (by unfold Host.lowb; rw [if_neg (fun h => h90 h.2)]))
          clear h65 h90
          go_wp2
          go_roundw
          case rel => exact ⟨k + 1, by omega, by go_num, hst.out⟩
          case measure => simp [intOf]; omega
      · have q65 : ¬ (65 : UInt8) ≤ x := fun h => h65 (UInt8.le_iff_toNat_le.1 h)
        have hst := hd (Hsame.out (by unfold Host.lowb; rw [if_neg (fun h => h65 h.1)]))
        clear h65
        go_wp2
        go_roundw
        case rel => exact ⟨k + 1, by omega, by go_num, hst.out⟩
        case measure => simp [intOf]; omega
    · obtain rfl : k = n := by omega
      have t1 : ¬ (k : Int) < (k : Int) := by omega
      rw [Host.mid_all l k (by rw [Hn.out]; exact Nat.le_refl _)] at hL
      have hrd := hL.reads
      rw [show (Host.low l).length = k by unfold Host.low; rw [List.length_map]; exact Hn.out] at hrd
      go_wp2_with (first
        | (with_reducible change wpList _ _ _ (⟨some 29, _, _, _, _, _⟩ :: _) _ _; refine wpl_run (o := ⟨some 29, _, _, _, _, _⟩) (by simp [Region.wanted, yielded, Act.put]) (.string (str (Host.low l))) (run_toStr (by rfl) Tryz.underlying37 Tryz.underlying5 Tryz.underlying9 _ (some ⟨g, 0, none⟩) k c (Host.low l) (by simp [Act.eval, Act.put]) hrd) ?_))
      go_ret
      exact ⟨rfl, hL.below⟩
set_option maxHeartbeats 4000000 in
set_option maxRecDepth 100000 in
theorem small_any (l : List UInt8) (hl : l.length ≤ 9223372036854775800) (w : World) : Calls Tryz.prog 15 #[.string (str l)] w fun e w' => e = .returned (.string (str (Host.low l))) ∧ Below w.heap.size w w' := by
  have Hl := hd hl
  have H0 := hd (Lt.new w l)
  obtain ⟨n, Hn⟩ : ∃ z, Hd (l.length = z) := ⟨_, ⟨rfl⟩⟩
  have hn : (n : Int) ≤ 9223372036854775800 := by have := Hl.out; have := Hn.out; omega
  obtain ⟨c, Hc⟩ : ∃ z, Hd (grownCap w l.length 0 5 = z) := ⟨_, ⟨rfl⟩⟩
  obtain ⟨w1, Hw1⟩ : ∃ z, Hd (Lib.bytesWorld w 5 (str l) = z) := ⟨_, ⟨rfl⟩⟩
  have HCV := hd (fun (ρ : Operand → Value) (o : Oper) (x : Operand) (t rt : TypeId) (ho : o.op = .convert t rt x) (ht : Tryz.prog.underlying t = some .string) (hdd : Tryz.prog.underlying rt = some (.slice 5)) (hx : ρ x = .string (str l)) => (by have h := run_bytesS (P := Tryz.prog) (w := w) ho ht hdd Tryz.underlying5 l hx; rw [Hw1.out, Hc.out, Hn.out] at h; exact h : (execOp ρ o).run Tryz.prog w = .ok (.value (.slice (some ⟨w.heap.size, 0, none⟩) n c)) w1))
  rw [Hw1.out] at H0
  obtain ⟨g, Hg⟩ : ∃ z, Hd (w.heap.size = z) := ⟨_, ⟨rfl⟩⟩
  rw [Hg.out] at H0 HCV ⊢
  clear hl
  go_enter Tryz.func15, Tryz.ntmps15
  go_wp2_with (first
    | (with_reducible change wpList _ _ _ (⟨some 6, _, _, _, _, _⟩ :: _) _ _; refine wpl_run (o := ⟨some 6, _, _, _, _, _⟩) (by simp [Region.wanted, yielded, Act.put]) _ (HCV.out _ _ _ _ _ (by rfl) Tryz.underlying9 Tryz.underlying37 (by simp [Act.eval, Act.put])) ?_))
  go_loopw [4] (fun s wr => ∃ k : Nat, k ≤ n ∧ s = .int .i64 (k : Int) ∧ Lt w wr g (Host.mid l k)) (fun s _ => n - (intOf s).toNat)
  case atStart => exact ⟨0, Nat.zero_le _, rfl, by rw [Host.mid_zero]; exact H0.out⟩
  case round =>
    clear H0 HCV
    obtain ⟨k, hk, rfl, hL⟩ := hrel
    by_cases hlt : k < n
    · have t1 : (k : Int) < (n : Int) := by omega
      have hkl : k < l.length := by rw [Hn.out]; exact hlt
      have hcx := hL.cells k (by rw [Host.mid_len]; exact hkl)
      have hfx := hL.frz k (by rw [Host.mid_len]; exact hkl)
      rw [Host.mid_nth l k hkl] at hcx
      have hst := hL.set k (by rw [Host.mid_len]; exact hkl) (Host.lowb (nth l k))
      rw [Host.mid_step l k hkl] at hst
      have hsame : Host.lowb (nth l k) = nth l k → Lt w wr g (Host.mid l (k + 1)) := fun e => by
        have h := Host.mid_step l k hkl
        rw [e] at h
        rw [← h]
        have h2 := Host.set_same (Host.mid l k) k
        rw [Host.mid_nth l k hkl] at h2
        rw [h2]
        exact hL
      obtain ⟨x, Hx⟩ : ∃ z, Hd (nth l k = z) := ⟨_, ⟨rfl⟩⟩
      rw [Hx.out] at hcx hst hsame
      have Hst := hd hst
      have Hsame := hd hsame
      have wk : IntKind.i64.wrap ((k : Int) + 1) = (k : Int) + 1 := IntWalk.i64_in _ (by omega)
      clear hst hsame hL
      by_cases h65 : 65 ≤ n8 x
      · have q65 : (65 : UInt8) ≤ x := UInt8.le_iff_toNat_le.2 h65
        by_cases h90 : n8 x ≤ 90
        · have q90 : x ≤ 90 := UInt8.le_iff_toNat_le.2 h90
          have hlow := hd (show Host.lowb x = x ||| 32 by unfold Host.lowb; rw [if_pos ⟨h65, h90⟩])
          have hadd := hd (Host.low_add x ⟨h65, h90⟩)
          have hst := Hst.out
          rw [hlow.out, hadd.out] at hst
          clear h65 h90
          go_wp2
          go_roundw
          case rel => exact ⟨k + 1, by omega, by go_num, hst⟩
          case measure => simp [intOf]; omega
        · have q90 : ¬ x ≤ 90 := fun h => h90 (UInt8.le_iff_toNat_le.1 h)
          have hst := hd (Hsame.out (by unfold Host.lowb; rw [if_neg (fun h => h90 h.2)]))
          clear h65 h90
          go_wp2
          go_roundw
          case rel => exact ⟨k + 1, by omega, by go_num, hst.out⟩
          case measure => simp [intOf]; omega
      · have q65 : ¬ (65 : UInt8) ≤ x := fun h => h65 (UInt8.le_iff_toNat_le.1 h)
        have hst := hd (Hsame.out (by unfold Host.lowb; rw [if_neg (fun h => h65 h.1)]))
        clear h65
        go_wp2
        go_roundw
        case rel => exact ⟨k + 1, by omega, by go_num, hst.out⟩
        case measure => simp [intOf]; omega
    · obtain rfl : k = n := by omega
      have t1 : ¬ (k : Int) < (k : Int) := by omega
      rw [Host.mid_all l k (by rw [Hn.out]; exact Nat.le_refl _)] at hL
      have hrd := hL.reads
      rw [show (Host.low l).length = k by unfold Host.low; rw [List.length_map]; exact Hn.out] at hrd
      go_wp2_with (first
        | (with_reducible change wpList _ _ _ (⟨some 34, _, _, _, _, _⟩ :: _) _ _; refine wpl_run (o := ⟨some 34, _, _, _, _, _⟩) (by simp [Region.wanted, yielded, Act.put]) (.string (str (Host.low l))) (run_toStr (by rfl) Tryz.underlying37 Tryz.underlying5 Tryz.underlying9 _ (some ⟨g, 0, none⟩) k c (Host.low l) (by simp [Act.eval, Act.put]) hrd) ?_))
      go_ret
      exact ⟨rfl, hL.below⟩
end Go.Proofs.YtncaplplkfihgaaGreatDoor
