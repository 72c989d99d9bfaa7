/-
  The walks of record's small functions.
-/
import Derived.Test.YtbcboldepghgpaaSuiteD
import Derived.Test.YtbcboldepghgpaaNonce
import Derived.Test.YtbcboldepghgpaaJa
import Derived.WalkSpells
set_option linter.unusedVariables false
set_option linter.unusedSimpArgs false
set_option maxRecDepth 100000
namespace Go.Proofs.Ytbcboldepghgpaa
open Go.RowKit
theorem OwnB.of_blk {w : World} {g B n : Nat} {l : List UInt8} (h : Blk w g 5 (arr l)) (hl : l.length = n) (hB : B ≤ g) (hn : n ≤ 140737488355328) : OwnB w B (.slice (some ⟨g, 0, none⟩) n n) l := by
  subst hl
  refine ⟨by simp, .inr ⟨g, l.length, arr l, rfl, hB, h.is, Nat.le_refl _, by unfold maxLen; omega, by rw [arr_size, Nat.mul_one], ?_⟩⟩
  rw [Nat.mul_one, List.take_of_length_le (by simp [arr])]
  simp [arr]
theorem cloneB_any (A : Option Addr) (n c : Nat) (l : List UInt8) (w : World) (hr : ReadsB w w.heap.size A n l) (hn : n ≤ 140737488355328) :
    Calls Try.prog 41 #[.slice A n c] w fun e w' => ∃ v, e = .returned v ∧ OwnB w' w.heap.size v l ∧ Below w.heap.size w w' := by
  have Hl := hd hr.len
  cases A with
  | none =>
    have hn0 : n = 0 := by
      rcases Nat.eq_zero_or_pos n with h | h
      · exact h
      · obtain ⟨ad, e, _⟩ := hr.is.2 h; cases e
    have hl0 : l = [] := List.length_eq_zero_iff.1 (by rw [Hl.out, hn0])
    subst hl0
    subst hn0
    have heq := fun (W : World) => Lib.run_eql_slice_nil (P := Try.prog) W 24 5 none 0 c 0 0 Try.underlying24
    go_enter Try.func41, Try.ntmps41
    go_wp2
    go_ret
    exact ⟨_, rfl, OwnB.nil _ _, Below.refl _ _⟩
  | some ad =>
    have own0 : OwnB (w.alloc (.cells #[] 5)) w.heap.size (.slice (some ⟨w.heap.size, 0, none⟩) 0 0) [] := OwnB.empty (Nat.le_refl _)
    have hB0 : Below w.heap.size w (w.alloc (.cells #[] 5)) := (Below.refl _ _).alloc (Nat.le_refl _) _
    have hra : ReadsB (w.alloc (.cells #[] 5)) w.heap.size (some ad) n l := ⟨hr.len, hr.is.alloc (Nat.le_refl _) _⟩
    have heq := fun (W : World) => Lib.run_eql_slice_nil (P := Try.prog) W 24 5 (some ad) n c 0 0 Try.underlying24
    go_enter Try.func41, Try.ntmps41
    go_wp2_with (first | (at_builtin; refine wpl_appendB rfl _ _ rfl w.heap.size _ [] rfl own0 w.heap.size (some ad) n c l rfl hra (by rw [Hl.out]; simp; omega) hB0.size ?_; intro v1 w1 own1 gr1 at1; rw [List.nil_append] at own1; have hB1 := below_appended hB0 own0 gr1 (Nat.le_refl _) hB0.size))
    go_ret
    exact ⟨_, rfl, own1, hB1⟩
namespace Rec
def hdr (t : UInt8) (n : Nat) : List UInt8 := [t, 3, 3, UInt8.ofNat (n / 256), UInt8.ofNat n]
theorem hdr_len (t : UInt8) (n : Nat) : (hdr t n).length = 5 := rfl
/-- A locker's cells. -/
def lkr (s : UInt16) (K : Value) (iv : List UInt8) (seq : UInt64) : Array Value := (.int .u16 ((n16 s : Nat) : Int) :: K :: (iv.map U8 ++ [.int .u64 ((n64 seq : Nat) : Int)])).toArray
theorem lkr_size (s : UInt16) (K : Value) (iv : List UInt8) (seq : UInt64) (h : iv.length = 12) : (lkr s K iv seq).size = 15 := by simp [lkr, h]
theorem lkr_set (s : UInt16) (K : Value) (iv : List UInt8) (seq q : UInt64) (h : iv.length = 12) : (lkr s K iv seq).setIfInBounds 14 (.int .u64 ((n64 q : Nat) : Int)) = lkr s K iv q := by
  unfold lkr
  simp only [List.setIfInBounds_toArray, List.set_cons_succ]
  congr 3
  rw [List.set_append_right _ _ (by simp [h])]
  simp [h]
/-- A key that locks records up. -/
structure LkAt (W : World) (B g : Nat) (s : UInt16) (key iv : List UInt8) (seq : UInt64) : Prop where
  at_ : ∃ A c, Blk W g 81 (lkr s (.slice A key.length c) iv seq) ∧ OwnB W 0 (.slice A key.length c) key
  iv12 : iv.length = 12
  lo : B ≤ g
theorem LkAt.next {W W' : World} {B g : Nat} {s : UInt16} {key iv : List UInt8} {seq : UInt64} (h : LkAt W B g s key iv seq) (hb : Below W.heap.size W W') : LkAt W' B g s key iv seq := by
  obtain ⟨⟨A, c, h1, h2⟩, h3, h4⟩ := h
  exact ⟨⟨A, c, h1.below hb h1.lt, h2.later hb⟩, h3, h4⟩
/-- A writer's cells. -/
def wrc (L : Value) (lim : UInt64) : Array Value := #[L, .int .u64 ((n64 lim : Nat) : Int)]
theorem list12 (l : List UInt8) (h : l.length = 12) : ∃ a b c d e f g i j k m n, l = [a, b, c, d, e, f, g, i, j, k, m, n] := by
  match l, h with
  | [a, b, c, d, e, f, g, i, j, k, m, n], _ => exact ⟨a, b, c, d, e, f, g, i, j, k, m, n, rfl⟩
theorem builtL (s : UInt16) (A : Option Addr) (n c : Nat) (iv : List UInt8) (h : iv.length = 12) : Try.prog.built 81 [(0, .int .u16 ((n16 s : Nat) : Int)), (1, .slice A n c), (2, .agg (arr iv))] = some (lkr s (.slice A n c) iv 0) := by
  obtain ⟨a, b, c, d, e, f, g, i, j, k, m, n, rfl⟩ := list12 iv h
  kernel_rfl
section
variable {P : Program} {w : World} {o : Oper} {ρ : Operand → Value} {x y : Operand} {t rt : TypeId}
theorem run_hi8 (ho : o.op = .binOp .shr t x y rt) (n : Nat) (hn : n ≤ 4294967296) (hx : ρ x = .int .i64 (n : Int)) (hy : ρ y = .int .u64 8) : (execOp ρ o).run P w = .ok (.value (.int .i64 ((n / 256 : Nat) : Int))) w := by
  have e : IntKind.i64.wrap ((n : Int) / 256) = ((n / 256 : Nat) : Int) := by
    rw [show (n : Int) / 256 = ((n / 256 : Nat) : Int) by omega]
    exact IntWalk.i64_in _ (by omega)
  unfold execOp
  simp only [ho, hx, hy]
  simp [go_sem, Op.shift, Int.shiftRight_eq_div_pow, e]
  exact Int.fdiv_eq_ediv_of_nonneg _ (by omega)
theorem run_low8 (ho : o.op = .convert 3 5 x) (n : Nat) (hx : ρ x = .int .i64 (n : Int)) : (execOp ρ o).run Try.prog w = .ok (.value (.int .u8 ((n8 (UInt8.ofNat n) : Nat) : Int))) w := by
  have e : IntKind.u8.wrap (n : Int) = ((n8 (UInt8.ofNat n) : Nat) : Int) := by
    rw [wrap_n8, BitVec.ofInt_natCast]; rfl
  unfold execOp
  simp only [ho, hx]
  simp [go_sem, Try.underlying3, Try.underlying5, e]
end
end Rec
set_option maxHeartbeats 2000000 in
set_option maxRecDepth 100000 in
theorem Rec.begun_any (t : UInt8) (n : Nat) (hn : n ≤ 65536) (w : World) :
    Calls Try.prog 53 #[.int .u8 ((n8 t : Nat) : Int), .int .i64 (n : Int)] w fun e w' => e = .returned (.slice (some ⟨w.heap.size, 0, none⟩) 5 5) ∧ OwnB w' w.heap.size (.slice (some ⟨w.heap.size, 0, none⟩) 5 5) (Rec.hdr t n) ∧ Below w.heap.size w w' := by
  have hb : Blk (w.alloc (.cells (arr (Rec.hdr t n)) 5)) w.heap.size 5 (arr (Rec.hdr t n)) := Blk.nu rfl
  have hB : Below w.heap.size w (w.alloc (.cells (arr (Rec.hdr t n)) 5)) := (Below.refl _ _).alloc (Nat.le_refl _) _
  have own := OwnB.of_blk (B := w.heap.size) hb (Rec.hdr_len t n) (Nat.le_refl _) (by omega)
  unfold Rec.hdr arr at *
  simp only [List.map_cons, List.map_nil] at *
  go_enter Try.func53, Try.ntmps53
  go_wp2_with (first
    | (refine wpl_run (o := ⟨some 7, _, _, _, _, _⟩) (wanted_plain rfl) (.int .i64 ((n / 256 : Nat) : Int)) (Rec.run_hi8 (by rfl) n (by omega) (by simp [Act.eval]) (by simp [Act.eval])) ?_)
    | (refine wpl_run (o := ⟨some 8, _, _, _, _, _⟩) (wanted_plain rfl) (.int .u8 ((n8 (UInt8.ofNat (n / 256)) : Nat) : Int)) (Rec.run_low8 (by rfl) (n / 256) (by simp [Act.eval, Act.put])) ?_)
    | (refine wpl_run (o := ⟨some 10, _, _, _, _, _⟩) (wanted_plain rfl) (.int .u8 ((n8 (UInt8.ofNat n) : Nat) : Int)) (Rec.run_low8 (by rfl) n (by simp [Act.eval, Act.put])) ?_))
  go_ret
  exact ⟨rfl, own, hB⟩
attribute [irreducible] Rec.hdr
theorem Rec.newWriter_any (w : World) : Calls Try.prog 14 #[] w fun e w' => e = .returned (.pointer (some ⟨w.heap.size, 0, none⟩)) ∧ w' = w.alloc (.cells (Rec.wrc (.pointer none) 0) 75) := by
  have hb : Try.prog.built 75 [] = some (Rec.wrc (.pointer none) 0) := by kernel_rfl
  go_enter Try.func14, Try.ntmps14
  go_wp2_with (refine wpl_build rfl 75 [] rfl [] rfl _ hb ?_)
  go_ret
  exact ⟨rfl, rfl⟩
end Go.Proofs.Ytbcboldepghgpaa
