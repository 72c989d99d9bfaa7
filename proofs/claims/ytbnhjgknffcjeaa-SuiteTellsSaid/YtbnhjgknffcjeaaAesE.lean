/-
  The walk that makes a key ready.
-/
import Derived.Test.YtbnhjgknffcjeaaAesD
import Derived.Test.YtbnhjgknffcjeaaApp
import Derived.Deep.RegionLaw
set_option linter.unusedVariables false
set_option linter.unusedSimpArgs false
namespace Go.Proofs.Ytbnhjgknffcjeaa
open Go.RowKit
set_option maxHeartbeats 400000 in
set_option maxRecDepth 100000 in
theorem new_refused (A : Option Addr) (n c : Nat) (w : World) (h16 : n ≠ 16) (h32 : n ≠ 32) :
    Calls Try.prog 68 #[.slice A n c] w fun e w' => e = .returned (.tuple #[.pointer none, .int .i64 1]) ∧ w = w' := by
  have t1 : ((n : Int) == 16) = false := by rw [beq_eq_false_iff_ne]; omega
  have t2 : ((n : Int) == 32) = false := by rw [beq_eq_false_iff_ne]; omega
  have t3 : ((n : Int) != 16) = true := by rw [bne, t1]; rfl
  have t4 : ((n : Int) != 32) = true := by rw [bne, t2]; rfl
  go_enter Try.func68, Try.ntmps68
  go_wp2
  go_ret2
  exact ⟨rfl, rfl⟩
/-- As KeyAt, and that the key lies in blocks from B on. -/
structure KeyFrom (w : World) (B g : Nat) (rs : List (List UInt8)) : Prop where
  ex : ∃ r c, B ≤ r ∧ B ≤ g ∧ r < w.heap.size ∧ Blk w g 113 (#[Value.slice (some ⟨r, 0, none⟩) rs.length c] ++ arr Aes.sbox) ∧ ∀ i, i < rs.length → (rs.getD i []).length = 16 ∧ Cells w ⟨r, i * 16, none⟩ ((rs.getD i []).map U8)
theorem KeyFrom.at_ {w : World} {B g : Nat} {rs : List (List UInt8)} (h : KeyFrom w B g rs) : KeyAt w g rs := by
  obtain ⟨r, c, _, _, h1, h2, h3⟩ := h.ex
  exact ⟨r, c, h1, h2, h3⟩
theorem KeyFrom.below {w w' : World} {B g : Nat} {rs : List (List UInt8)} (h : KeyFrom w B g rs) (hb : Below w.heap.size w w') : KeyFrom w' B g rs := by
  obtain ⟨r, c, h1, h2, hr, h3, h4⟩ := h.ex
  exact ⟨r, c, h1, h2, Nat.lt_of_lt_of_le hr hb.size, h3.below hb h3.lt, fun i hi => ⟨(h4 i hi).1, (h4 i hi).2.below hb hr⟩⟩
/-- A block below B may be written. -/
theorem KeyFrom.moved {w w' : World} {B g z : Nat} {rs : List (List UInt8)} (h : KeyFrom w B g rs) (hg : w.grownBy w' (some z)) (hz : z < B) : KeyFrom w' B g rs := by
  obtain ⟨r, c, h1, h2, hr, h3, h4⟩ := h.ex
  exact ⟨r, c, h1, h2, Nat.lt_of_lt_of_le hr hg.size, h3.grown hg (by intro e; injection e; omega), fun i hi => ⟨(h4 i hi).1, (h4 i hi).2.grown hg hr (by intro e; injection e with e; have e : r = z := e; omega)⟩⟩
/-- What the loop that makes the round keys knows: all of them in v, the key in block g, its box. -/
structure KeyInv (w : World) (B g : Nat) (v : Value) (al : List UInt8) (w0 : World) : Prop where
  own : OwnB w B v al
  key : Blk w g 113 (#[Value.slice none 0 0] ++ arr Aes.sbox)
  old : Below B w0 w
  lo : B ≤ g
theorem KeyInv.moved {w w' : World} {B g z : Nat} {v : Value} {al : List UInt8} {w0 : World} (h : KeyInv w B g v al w0) (hg : w.grownBy w' (some z)) (hz : g ≠ z) (hv : v.ownBlock ≠ some z) (hB : B ≤ z) : KeyInv w' B g v al w0 :=
  ⟨h.own.moved hg hv, h.key.grown hg (fun e => hz (by injection e)), below_moved h.old hg hB (by have := h.key.lt; have := h.lo; omega), h.lo⟩
theorem KeyInv.box {w : World} {B g : Nat} {v : Value} {al : List UInt8} {w0 : World} (h : KeyInv w B g v al w0) (x : UInt8) : w.cell? ⟨g, 1 + n8 x, none⟩ = some (.int .u8 (n8 (Aes.sb x))) := (h.key.cell _).trans (box_cell _ _ (n8_lt x))
theorem ownBlock_slice (G n c : Nat) : (Value.slice (some ⟨G, 0, none⟩) n c).ownBlock = some G := rfl
theorem key_cells (l : List UInt8) (hl : l.length = 256) : Try.prog.built 113 [(1, .agg (arr l))] = some (#[Value.slice none 0 0] ++ arr l) := by
  have hz : (List.replicate 256 (0 : UInt8)).length = 256 := List.length_replicate
  rw [built_key]
  generalize List.replicate 256 (0 : UInt8) = Z at hz ⊢
  have h1 : (arr l).toList.length = 256 := by rw [Array.length_toList, arr_size, hl]
  have h2 : (arr Z).toList.length = 256 := by rw [Array.length_toList, arr_size, hz]
  have hs : (#[Value.slice none 0 0] ++ arr Z).toList = Value.slice none 0 0 :: (arr Z).toList := by rw [Array.toList_append]; rfl
  rw [fill_cons _ _ 1 1 256 _ _ rfl (by show (arr l).size = 256; rw [arr_size, hl]) (by rw [Array.size_append, arr_size, hz]; exact Nat.le_of_eq (by decide))]
  rw [Instr.fill]
  congr 1
  show splice _ 1 (arr l).toList = _
  rw [splice, hs, h1, List.drop_eq_nil_of_le (by rw [List.length_cons, h2]; exact Nat.le_of_eq (by decide))]
  apply Array.ext'
  rw [Array.toList_append, List.append_nil]; rfl
theorem u8_size : (Try.prog.info? 5).map (·.size) = some 1 := by kernel_rfl
theorem u8_noagg : ((Try.prog.underlying 5).map isAggD) = some false := by kernel_rfl
theorem a16_info : (Try.prog.info? 63).map (fun i => (i.zero, i.size, i.bytes)) = some (some (.agg (arr (List.replicate 16 0))), 16, 16) := by kernel_rfl
def lenOf : Value → Nat | .slice _ n _ => n | _ => 0
theorem list16 (l : List UInt8) (h : l.length = 16) : ∃ p0 p1 p2 p3 p4 p5 p6 p7 p8 p9 p10 p11 p12 p13 p14 p15, l = [p0, p1, p2, p3, p4, p5, p6, p7, p8, p9, p10, p11, p12, p13, p14, p15] := by
  match l, h with
  | [p0, p1, p2, p3, p4, p5, p6, p7, p8, p9, p10, p11, p12, p13, p14, p15], _ => exact ⟨p0, p1, p2, p3, p4, p5, p6, p7, p8, p9, p10, p11, p12, p13, p14, p15, rfl⟩
theorem head_set (v v' : Value) (l : List UInt8) : (#[v] ++ arr l).setIfInBounds 0 v' = #[v'] ++ arr l := by
  apply Array.ext'
  simp
theorem ownsRow_form {w : World} {base : Nat} {e : TypeId} {size : Nat} {v : Value} {n : Nat} {xs : List Value} (h : w.ownsRow base e size v n xs) (hn : 0 < n) : ∃ g cap, v = .slice (some ⟨g, 0, none⟩) n cap ∧ base ≤ g ∧ g < w.heap.size := by
  obtain ⟨g, cap, hv, hg, hlt⟩ := h.form hn
  exact ⟨g, cap, hv, hg, hlt⟩
theorem keyT_mid (n : Nat) (al : List UInt8) (one : UInt8) (h0 : ¬ al.length % n = 0) (h1 : n = 32) (h2 : al.length % n = 16) : Aes.keyT n al one = iter (Aes.sbStep (Aes.last4 al)) 4 (Aes.last4 al) := by
  rw [Aes.keyT, if_neg h0, if_pos ⟨h1, h2⟩]
end Go.Proofs.Ytbnhjgknffcjeaa
