/-
  The walks of Galois counter mode's small functions.
-/
import Derived.Test.YthigbggacgiamaaDoorJa
import Derived.WalkSpells
import Derived.WalkLawsBesides
import Derived.StillTailTactics
import Derived.Deep.QuietTactic
import Derived.BigQuiet
set_option linter.unusedVariables false
set_option linter.unusedSimpArgs false
set_option maxRecDepth 100000
namespace Go.Proofs.YthigbggacgiamaaDoor
open Go.RowKit
/-- The cells of a gcm.block. -/
def cells2 (x : UInt64 × UInt64) : Array Value := #[.int .u64 ((n64 x.1 : Nat) : Int), .int .u64 ((n64 x.2 : Nat) : Int)]
theorem cells2_get0 (x : UInt64 × UInt64) : (cells2 x)[0]? = some (.int .u64 (n64 x.1)) := rfl
theorem cells2_get1 (x : UInt64 × UInt64) : (cells2 x)[1]? = some (.int .u64 (n64 x.2)) := rfl
theorem cells2_set0 (x : UInt64 × UInt64) (v : UInt64) : (cells2 x).setIfInBounds 0 (.int .u64 (n64 v)) = cells2 (v, x.2) := rfl
theorem cells2_set1 (x : UInt64 × UInt64) (v : UInt64) : (cells2 x).setIfInBounds 1 (.int .u64 (n64 v)) = cells2 (x.1, v) := rfl
theorem Blk.hi {w : World} {g : Nat} {t : TypeId} {x : UInt64 × UInt64} (h : Blk w g t (cells2 x)) : w.cell? ⟨g, 0, none⟩ = some (.int .u64 (n64 x.1)) := (h.cell 0).trans (cells2_get0 x)
theorem Blk.lo {w : World} {g : Nat} {t : TypeId} {x : UInt64 × UInt64} (h : Blk w g t (cells2 x)) : w.cell? ⟨g, 1, none⟩ = some (.int .u64 (n64 x.2)) := (h.cell 1).trans (cells2_get1 x)
theorem Blk.set0 {w : World} {g : Nat} {t : TypeId} {x : UInt64 × UInt64} (h : Blk w g t (cells2 x)) (v : UInt64) : Blk (w.setCell ⟨g, 0, none⟩ (.int .u64 (n64 v))) g t (cells2 (v, x.2)) := by
  have := h.set_ 0 (.int .u64 (n64 v)); rwa [cells2_set0] at this
theorem Blk.set1 {w : World} {g : Nat} {t : TypeId} {x : UInt64 × UInt64} (h : Blk w g t (cells2 x)) (v : UInt64) : Blk (w.setCell ⟨g, 1, none⟩ (.int .u64 (n64 v))) g t (cells2 (x.1, v)) := by
  have := h.set_ 1 (.int .u64 (n64 v)); rwa [cells2_set1] at this
theorem zero_blk : (Tryd.prog.info? 138).bind (·.zero) = some (.agg (cells2 (0, 0))) := by kernel_rfl
theorem ty_blk : AggT Tryd.prog 138 2 := ⟨by kernel_rfl, by kernel_rfl⟩
theorem Blk.cells_blk {w : World} {g : Nat} {t : TypeId} {x : UInt64 × UInt64} (h : Blk w g t (cells2 x)) : Cells w ⟨g, 0, none⟩ [.int .u64 (n64 x.1), .int .u64 (n64 x.2)] := h.cells_at 0 _ (by
  intro j v hv
  rw [Nat.zero_add]
  match j, hv with
  | 0, hv => exact hv
  | 1, hv => exact hv
  | j + 2, hv => simp at hv)
section
variable {P : Program} {w : World} {o : Oper} {a : Act} {Q : Exit → Act → World → Prop} {ops : Array Oper} {rest : List Oper}
theorem wpl_load_blk (hgd : o.guard = none) (x : Operand) (ho : o.op = .load 138 x) (g : Nat) (hx : a.eval x = .pointer (some ⟨g, 0, none⟩)) (t : TypeId) (p : UInt64 × UInt64) (hb : Blk w g t (cells2 p))
    (h : wpList Tryd.prog ops Q rest (a.put o.dst (.agg (cells2 p))) w) : wpList Tryd.prog ops Q (o :: rest) a w :=
  wpl_load hgd _ x ho _ hx 2 ty_blk _ rfl hb.cells_blk h
theorem wpl_store_blk (hgd : o.guard = none) (x y : Operand) (ho : o.op = .store 138 x y) (g : Nat) (p : UInt64 × UInt64) (hx : a.eval x = .pointer (some ⟨g, 0, none⟩)) (hy : a.eval y = .agg (cells2 p))
    (t : TypeId) (q : UInt64 × UInt64) (hb : Blk w g t (cells2 q)) (h : wpList Tryd.prog ops Q rest (a.put o.dst undef) (w.setRow g (cells2 p))) : wpList Tryd.prog ops Q (o :: rest) a w := by
  refine wpl_store hgd _ x y ho g 0 [.int .u64 (n64 p.1), .int .u64 (n64 p.2)] hx hy t _ hb ty_blk.size (by show 0 + 2 ≤ (cells2 q).size; exact Nat.le_refl _) (by simp [Value.oneCell']) ?_
  rw [splice_all (cells2 q) [.int .u64 (n64 p.1), .int .u64 (n64 p.2)] rfl]
  exact h
theorem ret_blk {fn : Func} {p : Tmp} {R : Ending → World → Prop} (h : fn.results = #[.cell p 138]) (g : Nat) (hp : a.tmps.getD p undef = .pointer (some ⟨g, 0, none⟩)) (t : TypeId) (x : UInt64 × UInt64) (hb : Blk w g t (cells2 x)) (hd : a.defers = []) (hR : R (.returned (.agg (cells2 x))) w) : bodyPost Tryd.prog fn R .ret a w := by
  refine bodyPost_ret (v := .agg (cells2 x)) ?_ hd hR
  have hp' : a.tmps[p]?.getD undef = .pointer (some ⟨g, 0, none⟩) := by simpa using hp
  have := run_loadVar_cells (P := Tryd.prog) (w := w) ty_blk ⟨g, 0, none⟩ [.int .u64 (n64 x.1), .int .u64 (n64 x.2)] rfl hb.cells_blk.is
  simp [results, h, hp', asAddr, this, cells2]
end
set_option maxHeartbeats 2000000 in
set_option maxRecDepth 100000 in
theorem times64_any (x y : UInt64 × UInt64) (w : World) :
    Calls Tryd.prog 71 #[.agg (cells2 x), .agg (cells2 y)] w fun e w' => e = .returned (.agg (cells2 (Gcm.times x y))) ∧ Below w.heap.size w w' := by
  go_enter Tryd.func71, Tryd.ntmps71
  go_wp2_with (refine wpl_alloc rfl 138 rfl _ zero_blk ?_)
  refine wp_name (fun wo => Blk wo w.heap.size 138 (cells2 x) ∧ Blk wo (w.heap.size + 1) 138 (cells2 y) ∧ Blk wo (w.heap.size + 1 + 1) 138 (cells2 (0, 0)) ∧ Blk wo (w.heap.size + 1 + 1 + 1) 138 (cells2 (0, 0)) ∧ Below w.heap.size w wo)
    ⟨(((Blk.nu (by simp)).alloc _).alloc _).alloc _, ((Blk.nu (by simp)).alloc _).alloc _, (Blk.nu (by simp)).alloc _, Blk.nu (by simp), ((((Below.refl _ _).alloc (by simp) _).alloc (by simp) _).alloc (by simp; omega) _).alloc (by simp; omega) _⟩ ?_
  rintro wo ⟨b0, b1, b2, b3, hB⟩
  go_loopw [9] (fun i wr => ∃ k : Nat, k ≤ 128 ∧ i = .int .i64 (k : Int) ∧ Blk wr w.heap.size 138 (cells2 ((Gcm.tRun x y k).xh, (Gcm.tRun x y k).xl)) ∧ Blk wr (w.heap.size + 1) 138 (cells2 ((Gcm.tRun x y k).yh, (Gcm.tRun x y k).yl)) ∧
    Blk wr (w.heap.size + 1 + 1) 138 (cells2 (0, 0)) ∧ Blk wr (w.heap.size + 1 + 1 + 1) 138 (cells2 ((Gcm.tRun x y k).oh, (Gcm.tRun x y k).ol)) ∧ Below w.heap.size w wr) (fun i _ => 128 - (intOf i).toNat)
  case atStart => exact ⟨0, by omega, rfl, b0, b1, b2, b3, hB⟩
  case round =>
    clear b0 b1 b2 b3 hB
    obtain ⟨k, hk, rfl, b0, b1, b2, b3, hB⟩ := hrel
    obtain ⟨s, Hs⟩ : ∃ s, Hd (Gcm.tRun x y k = s) := ⟨_, ⟨rfl⟩⟩
    rw [Hs.out] at b0 b1 b3
    by_cases hlt : k < 128
    · have tk : (k : Int) < 128 := by omega
      have Hnx := hd (show Gcm.tRun x y (k + 1) = Gcm.tStep k s by rw [← Hs.out]; rfl)
      have c00 := b0.hi
      have c01 := b0.lo
      have c10 := b1.hi
      have c11 := b1.lo
      have c30 := b3.hi
      have c31 := b3.lo
      have f00 := b0.frozen 0
      have f01 := b0.frozen 1
      have f10 := b1.frozen 0
      have f11 := b1.frozen 1
      have f30 := b3.frozen 0
      have f31 := b3.frozen 1
      by_cases h64 : k < 64
      · have t64 : ¬ (k : Int) ≥ 64 := by omega
        have t65 : ¬ 64 ≤ (k : Int) := by omega
        have Hst := hd (show Gcm.tStep k s = ⟨s.xh >>> 1 ^^^ (-(s.xl &&& 1) &&& 16212958658533785600), s.xl >>> 1 ||| s.xh <<< 63, s.yh <<< 1, s.yl, s.oh ^^^ (s.xh &&& -(s.yh >>> 63)), s.ol ^^^ (s.xl &&& -(s.yh >>> 63))⟩ by rw [Gcm.tStep]; simp [h64])
        go_wp2
        clear c00 c01 c10 c11 c30 c31 f00 f01 f10 f11 f30 f31
        go_roundw
        case rel =>
          refine ⟨k + 1, by omega, by go_num, ?_, ?_, (((((b2.far (by simp <;> omega) _).far (by simp <;> omega) _).far (by simp <;> omega) _).far (by simp <;> omega) _).far (by simp <;> omega) _), ?_, (((((hB.setCell (by simp) _).setCell (by simp <;> omega) _).setCell (by simp <;> omega) _).setCell (by simp) _).setCell (by simp) _)⟩
          · rw [Hnx.out, Hst.out]; exact ((((b0.far (by simp <;> omega) _).far (by simp <;> omega) _).far (by simp <;> omega) _).set1 _).set0 _
          · rw [Hnx.out, Hst.out]; exact ((((b1.set0 _).far (by simp <;> omega) _).far (by simp <;> omega) _).far (by simp <;> omega) _).far (by simp <;> omega) _
          · rw [Hnx.out, Hst.out]; exact ((((b3.far (by simp <;> omega) _).set0 _).set1 _).far (by simp <;> omega) _).far (by simp <;> omega) _
        case measure => simp [intOf]; omega
      · have t64 : (k : Int) ≥ 64 := by omega
        have t65 : 64 ≤ (k : Int) := by omega
        have Hst := hd (show Gcm.tStep k s = ⟨s.xh >>> 1 ^^^ (-(s.xl &&& 1) &&& 16212958658533785600), s.xl >>> 1 ||| s.xh <<< 63, s.yh, s.yl <<< 1, s.oh ^^^ (s.xh &&& -(s.yl >>> 63)), s.ol ^^^ (s.xl &&& -(s.yl >>> 63))⟩ by rw [Gcm.tStep]; simp [h64])
        go_wp2
        clear c00 c01 c10 c11 c30 c31 f00 f01 f10 f11 f30 f31
        go_roundw
        case rel =>
          refine ⟨k + 1, by omega, by go_num, ?_, ?_, (((((b2.far (by simp <;> omega) _).far (by simp <;> omega) _).far (by simp <;> omega) _).far (by simp <;> omega) _).far (by simp <;> omega) _), ?_, (((((hB.setCell (by simp) _).setCell (by simp <;> omega) _).setCell (by simp <;> omega) _).setCell (by simp) _).setCell (by simp) _)⟩
          · rw [Hnx.out, Hst.out]; exact ((((b0.far (by simp <;> omega) _).far (by simp <;> omega) _).far (by simp <;> omega) _).set1 _).set0 _
          · rw [Hnx.out, Hst.out]; exact ((((b1.set1 _).far (by simp <;> omega) _).far (by simp <;> omega) _).far (by simp <;> omega) _).far (by simp <;> omega) _
          · rw [Hnx.out, Hst.out]; exact ((((b3.far (by simp <;> omega) _).set0 _).set1 _).far (by simp <;> omega) _).far (by simp <;> omega) _
        case measure => simp [intOf]; omega
    · have ek : k = 128 := by omega
      subst ek
      have tk : ¬ ((128 : Nat) : Int) < 128 := by omega
      have Hfin := hd (show Gcm.times x y = (s.oh, s.ol) by rw [Gcm.times, Hs.out])
      go_wp2_with (first | (refine wpl_load_blk rfl _ rfl _ rfl 138 (s.oh, s.ol) b3 ?_) | (refine wpl_store_blk rfl _ _ rfl (w.heap.size + 1 + 1) (s.oh, s.ol) rfl rfl 138 (0, 0) b2 ?_))
      rw [Hfin.out]
      exact ret_blk rfl (w.heap.size + 1 + 1) rfl 138 _ (b2.setRow _) rfl ⟨rfl, below_setRow hB (by omega) _⟩
set_option maxHeartbeats 2000000 in
set_option maxRecDepth 100000 in
theorem of_any (b : List UInt8) (hb : b.length = 16) (w : World) :
    Calls Tryd.prog 69 #[.agg (arr b)] w fun e w' => e = .returned (.agg (cells2 (Gcm.of b))) ∧ Below w.heap.size w w' := by
  have Hb := hd hb
  clear hb
  go_enter Tryd.func69, Tryd.ntmps69
  go_wp2_with (refine wpl_alloc rfl 138 rfl _ zero_blk ?_)
  refine wp_name (fun wo => Blk wo w.heap.size 87 (arr b) ∧ Blk wo (w.heap.size + 1) 138 (cells2 (0, 0)) ∧ Blk wo (w.heap.size + 1 + 1) 138 (cells2 (0, 0)) ∧ Below w.heap.size w wo)
    ⟨((Blk.nu (by simp)).alloc _).alloc _, (Blk.nu (by simp)).alloc _, Blk.nu (by simp), (((Below.refl _ _).alloc (by simp) _).alloc (by simp) _).alloc (by simp; omega) _⟩ ?_
  rintro wo ⟨b0, b1, b2, hB⟩
  go_loopw [5] (fun i wr => ∃ k : Nat, k ≤ 8 ∧ i = .int .i64 (k : Int) ∧ Blk wr w.heap.size 87 (arr b) ∧ Blk wr (w.heap.size + 1) 138 (cells2 (0, 0)) ∧ Blk wr (w.heap.size + 1 + 1) 138 (cells2 (iter (Gcm.ofStep b) k (0, 0))) ∧ Below w.heap.size w wr) (fun i _ => 8 - (intOf i).toNat)
  case atStart => exact ⟨0, by omega, rfl, b0, b1, b2, hB⟩
  case round =>
    clear b0 b1 b2 hB
    obtain ⟨k, hk, rfl, b0, b1, b2, hB⟩ := hrel
    obtain ⟨⟨sh, sl⟩, Hs⟩ : ∃ s, Hd (iter (Gcm.ofStep b) k (0, 0) = s) := ⟨_, ⟨rfl⟩⟩
    rw [Hs.out] at b2
    by_cases hlt : k < 8
    · have tk : (k : Int) < 8 := by omega
      have Hnx := hd (show iter (Gcm.ofStep b) (k + 1) (0, 0) = (sh <<< 8 ||| (nth b k).toUInt64, sl <<< 8 ||| (nth b (k + 8)).toUInt64) by rw [iter, Hs.out]; rfl)
      have c0 := b2.hi
      have c1 := b2.lo
      have f0 := b2.frozen 0
      have f1 := b2.frozen 1
      have d0 := b0.arr_cell k (by rw [Hb.out]; omega)
      have d1 := b0.arr_cell (k + 8) (by rw [Hb.out]; omega)
      have v1 : IntKind.i64.wrap ((k : Int) + 8) = (k : Int) + 8 := IntWalk.i64_in _ (by omega)
      have v2 : ((k : Int) + 8).toNat = k + 8 := by omega
      have v3 : (k : Int) + 8 < 16 := by omega
      have v4 : 0 ≤ (k : Int) + 8 := by omega
      have v5 : (k : Int) < 16 := by omega
      go_wp2
      go_still_tail 9, (by kernel_rfl)
      change wpList _ _ _ _ _ wr.drew
      go_wp2
      refine wp_name (fun wo => Blk wo w.heap.size 87 (arr b) ∧ Blk wo (w.heap.size + 1) 138 (cells2 (0, 0)) ∧ Blk wo (w.heap.size + 1 + 1) 138 (cells2 (sh <<< 8 ||| (nth b k).toUInt64, sl)) ∧ Below w.heap.size w wo)
        ⟨b0.drew.far (by simp <;> omega) _, b1.drew.far (by simp <;> omega) _, b2.drew.set0 _, hB.drew.setCell (by simp <;> omega) _⟩ ?_
      clear b0 b1 b2 hB c0 c1 f0 f1 d0 d1
      rintro wx ⟨b0, b1, b2, hB⟩
      have c1 := b2.lo
      have f1 := b2.frozen 1
      have d1 := b0.arr_cell (k + 8) (by rw [Hb.out]; omega)
      go_wp2
      go_still_tail 10, (by kernel_rfl)
      change wpList _ _ _ _ _ wx.drew
      go_wp2
      clear v1 v2 v3 v4 v5
      go_roundw
      case rel => exact ⟨k + 1, by omega, by go_num, b0.drew.far (by simp <;> omega) _, b1.drew.far (by simp <;> omega) _, by rw [Hnx.out]; exact b2.drew.set1 _, hB.drew.setCell (by simp <;> omega) _⟩
      case measure => simp [intOf]; omega
    · have ek : k = 8 := by omega
      subst ek
      have tk : ¬ ((8 : Nat) : Int) < 8 := by omega
      have Hfin := hd (show Gcm.of b = (sh, sl) by rw [Gcm.of, Hs.out])
      go_wp2_with (first | (refine wpl_load_blk rfl _ rfl _ rfl 138 (sh, sl) b2 ?_) | (refine wpl_store_blk rfl _ _ rfl (w.heap.size + 1) (sh, sl) rfl rfl 138 (0, 0) b1 ?_))
      rw [Hfin.out]
      exact ret_blk rfl (w.heap.size + 1) rfl 138 _ (b1.setRow _) rfl ⟨rfl, below_setRow hB (by omega) _⟩
end Go.Proofs.YthigbggacgiamaaDoor
