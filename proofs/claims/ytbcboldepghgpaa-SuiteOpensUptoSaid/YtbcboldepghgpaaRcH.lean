/-
  The walk of layer 9's reference: Poly.
-/
import Derived.Test.YtbcboldepghgpaaJe
import Derived.Test.YtbcboldepghgpaaJd
set_option linter.unusedVariables false
set_option linter.unusedSimpArgs false
set_option maxRecDepth 100000
namespace Go.Proofs.Ytbcboldepghgpaa
open Go.RowKit
namespace Reg
section
variable {P : Program} {w : World} {o : Oper} {ρ : Operand → Value} {x y : Operand} {t rt e : TypeId}
theorem quoN (ho : o.op = .binOp .quo t x y rt) (i j k : Nat) (hj : 0 < j) (hk : i / j = k) (hi : i ≤ 1000000) (hx : ρ x = .int .i64 (i : Int)) (hy : ρ y = .int .i64 (j : Int)) : (execOp ρ o).run P w = .ok (.value (.int .i64 (k : Int))) w := by
  subst hk
  have hj0 : ¬ (j : Int) = 0 := by omega
  have hj1 : ¬ j = 0 := by omega
  have e : IntKind.i64.wrap (((i / j : Nat) : Int)) = ((i / j : Nat) : Int) := IntWalk.i64_in _ (by
    have hle := Nat.div_le_self i j
    generalize i / j = zq at *
    omega)
  have e2 : (i : Int).tdiv (j : Int) = ((i / j : Nat) : Int) := by rw [Int.tdiv_eq_ediv_of_nonneg (by omega)]; rfl
  unfold execOp
  simp only [ho, hx, hy]
  simp [go_sem, hj0, hj1, e2]
  first | exact e | skip
theorem conv8 (ho : o.op = .convert 5 37 x) (c : UInt8) (hx : ρ x = .int .u8 ((n8 c : Nat) : Int)) : (execOp ρ o).run Try.prog w = .ok (.value (.int .u64 ((n64 c.toUInt64 : Nat) : Int))) w := by
  unfold execOp
  simp only [ho, hx]
  simp [go_sem, Try.underlying5, Try.underlying37]
theorem shlV (ho : o.op = .binOp .shl t x y rt) (i : UInt64) (k : Nat) (hx : ρ x = .int .u64 ((n64 i : Nat) : Int)) (hy : ρ y = .int .i64 (k : Int)) : (execOp ρ o).run P w = .ok (.value (.int .u64 ((n64 (shl64 i k) : Nat) : Int))) w := by
  unfold execOp
  simp only [ho, hx, hy]
  simp [go_sem]
theorem shrV (ho : o.op = .binOp .shr t x y rt) (i : UInt64) (k : Nat) (hx : ρ x = .int .u64 ((n64 i : Nat) : Int)) (hy : ρ y = .int .i64 (k : Int)) : (execOp ρ o).run P w = .ok (.value (.int .u64 ((n64 (shr64 i k) : Nat) : Int))) w := by
  unfold execOp
  simp only [ho, hx, hy]
  simp [go_sem]
theorem and255 (ho : o.op = .binOp .and t x y rt) (i : UInt64) (hx : ρ x = .int .u64 ((n64 i : Nat) : Int)) (hy : ρ y = .int .u64 255) : (execOp ρ o).run P w = .ok (.value (.int .u64 ((n64 (i &&& 255) : Nat) : Int))) w := by
  unfold execOp
  simp only [ho, hx, hy]
  simp [go_sem]
theorem shlOne (ho : o.op = .binOp .shl t x y rt) (k : Nat) (hx : ρ x = .int .u64 1) (hy : ρ y = .int .i64 (k : Int)) : (execOp ρ o).run P w = .ok (.value (.int .u64 ((n64 (shl64 1 k) : Nat) : Int))) w := shlV ho 1 k hx hy
end
end Reg
namespace Rc
theorem run_assign {P : Program} {w : World} {o : Oper} {ρ : Operand → Value} {x : Operand} {v : Value} (ho : o.op = .assign x) (hx : ρ x = v) : (execOp ρ o).run P w = .ok (.value v) w := by
  unfold execOp
  simp only [ho, hx]
  rfl
structure P1 (w : World) (key : List UInt8) (r : List UInt64) (W : World) : Prop where
  bk : Blk W (w.heap.size) 68 (arr key)
  bo : Blk W (w.heap.size + 1) 104 (arr (List.replicate 16 0))
  br : Blk W (w.heap.size + 1 + 1) 136 (Cha.row64 r)
  old : Below w.heap.size w W
section
variable {w W W' : World} {key : List UInt8} {r : List UInt64}
theorem P1.next (h : P1 w key r W) (hb : Below W.heap.size W W') : P1 w key r W' := ⟨h.bk.below hb h.bk.lt, h.bo.below hb h.bo.lt, h.br.below hb h.br.lt, h.old.trans (hb.mono h.old.size)⟩
theorem P1.set_ (h : P1 w key r W) (i : Nat) (x : UInt64) : P1 w key (r.set i x) (W.setCell ⟨w.heap.size + 1 + 1, i, none⟩ (.int .u64 ((n64 (x) : Nat) : Int))) :=
  ⟨h.bk.far (by simp only []; omega) _, h.bo.far (by simp only []; omega) _, Cha.Blk.set64 h.br i x, h.old.setCell (by simp only []; omega) _⟩
theorem P1.far (h : P1 w key r W) {z : Nat} (hz : w.heap.size + 1 + 1 < z) (i : Nat) (u : Value) : P1 w key r (W.setCell ⟨z, i, none⟩ u) :=
  ⟨h.bk.far (by simp only []; omega) _, h.bo.far (by simp only []; omega) _, h.br.far (by simp only []; omega) _, h.old.setCell (by simp only []; omega) _⟩
theorem P1.farRow (h : P1 w key r W) {z : Nat} (hz : w.heap.size + 1 + 1 < z) (cs : Array Value) : P1 w key r (W.setRow z cs) :=
  ⟨h.bk.farRow (by omega) _, h.bo.farRow (by omega) _, h.br.farRow (by omega) _, below_setRow h.old (by omega) _⟩
end
structure P2 (w : World) (key : List UInt8) (r : List UInt64) (y : Nat) (a : List UInt64) (W : World) : Prop where
  p1 : P1 w key r W
  ba : Blk W y 137 (Cha.row64 a)
section
variable {w W W' : World} {key : List UInt8} {r a : List UInt64} {y : Nat}
theorem P2.next (h : P2 w key r y a W) (hb : Below W.heap.size W W') : P2 w key r y a W' := ⟨h.p1.next hb, h.ba.below hb h.ba.lt⟩
theorem P2.set_ (h : P2 w key r y a W) (hy : w.heap.size + 1 + 1 < y) (i : Nat) (x : UInt64) : P2 w key r y (a.set i x) (W.setCell ⟨y, i, none⟩ (.int .u64 ((n64 (x) : Nat) : Int))) := ⟨h.p1.far hy _ _, Cha.Blk.set64 h.ba i x⟩
theorem P2.put (h : P2 w key r y a W) (hy : w.heap.size + 1 + 1 < y) (a' : List UInt64) : P2 w key r y a' (W.setRow y (Cha.row64 a')) := ⟨h.p1.farRow hy _, h.ba.setRow _⟩
end
theorem addBig {P : Program} {w : World} {o : Oper} {ρ : Operand → Value} {x y : Operand} {t rt : TypeId} (ho : o.op = .binOp .add t x y rt) (i j k : Nat) (hk : i + j = k) (hk2 : k ≤ 140737488355328) (hx : ρ x = .int .i64 (i : Int)) (hy : ρ y = .int .i64 (j : Int)) : (execOp ρ o).run P w = .ok (.value (.int .i64 (k : Int))) w := by
  have e : IntKind.i64.wrap ((i : Int) + (j : Int)) = (k : Int) := by
    rw [show (i : Int) + (j : Int) = (k : Int) by omega]
    exact IntWalk.i64_in _ (by omega)
  unfold execOp
  simp only [ho, hx, hy]
  simp [go_sem, e]
theorem text_cell {w W : World} {ad : Addr} {n G : Nat} {text : List UInt8} {bt : UInt8} (h : ReadsB w w.heap.size (some ad) n text) (hb : Below w.heap.size w W) (hG : G < n) (e : nth text G = bt) : W.cell? (ad.add G) = some (.int .u8 ((n8 bt : Nat) : Int)) := by
  obtain ⟨a2, e2, hlt, hc⟩ := h.cell hG
  injection e2 with e2
  subst e2
  rw [← e]
  exact (Below.cell hb (by rw [block_of_add]; exact hlt)).trans hc
theorem agg16 : AggT Try.prog 104 16 := ⟨by kernel_rfl, by kernel_rfl⟩
theorem zero16 : (Try.prog.info? 104).bind (·.zero) = some (.agg (arr (List.replicate 16 0))) := by kernel_rfl
end Rc
set_option maxHeartbeats 32000000 in
set_option maxRecDepth 100000 in
theorem Rc.poly_any (key : List UInt8) (hk : key.length = 32) (D : Option Addr) (n d : Nat) (text : List UInt8) (w : World) (hr : ReadsB w w.heap.size D n text) (hn : n ≤ 140737488355328) :
    Calls Try.prog 63 #[.agg (arr key), .slice D n d] w fun e w' => e = .returned (.agg (arr (Cha.poly key text))) ∧ Below w.heap.size w w' := by
  have HK := hd hk
  have Ht := hd hr.len
  have Hn := hd hn
  have Hr := hd hr
  obtain ⟨pl, Hpl⟩ : ∃ x, Hd (Cha.poly key text = x) := ⟨_, ⟨rfl⟩⟩
  have Lpl := hd (show pl.length = 16 by rw [← Hpl.out]; exact Cha.poly_len _ _)
  rw [Hpl.out]
  clear hk hn hr
  have HI0 := hd (Cha.RInv.start key)
  go_enter Try.func63, Try.ntmps63
  go_wp2_with (first
    | (refine wpl_alloc rfl 104 rfl _ Rc.zero16 ?_)
    | (refine wpl_alloc rfl 136 rfl _ Cha.zero8 ?_; simp only [World.size_alloc]; refine wpl_name (Rc.P1 w key (List.replicate 8 0)) ⟨((Blk.nu rfl).alloc _).alloc _, (Blk.nu (by simp)).alloc _, Blk.nu (by simp), (((Below.refl _ _).alloc (by simp) _).alloc (by simp) _).alloc (by simp <;> omega) _⟩ ?_; intro W1 H1))
  go_loopw [6] (fun i wr => ∃ (k : Nat) (r : List UInt64), k ≤ 16 ∧ i = .int .i64 ((k : Nat) : Int) ∧ Hd (Cha.RInv key k r) ∧ Rc.P1 w key r wr) (fun i _ => 16 - (intOf i).toNat)
  case atStart => exact ⟨0, _, by omega, rfl, HI0, H1⟩
  case round =>
    clear HI0 H1
    obtain ⟨i, r, hi, rfl, HI, H1⟩ := hrel
    have Lr := hd HI.out.len
    by_cases hlt : i < 16
    · have ti : (i : Int) < 16 := by omega
      have ti32 : (i : Int) < 32 := by omega
      have HI2 := hd (HI.out.step hlt)
      obtain ⟨k, Hk⟩ : ∃ x, Hd (nth key i = x) := ⟨_, ⟨rfl⟩⟩
      rw [Hk.out] at HI2
      obtain ⟨q, Hq⟩ : ∃ x, Hd (i / 2 = x) := ⟨_, ⟨rfl⟩⟩
      obtain ⟨m, Hm⟩ : ∃ x, Hd (i % 2 = x) := ⟨_, ⟨rfl⟩⟩
      obtain ⟨E, HE⟩ : ∃ x, Hd (8 * m = x) := ⟨_, ⟨rfl⟩⟩
      have HB := hd (show i < 16 ∧ q < 8 ∧ m < 2 ∧ E ≤ 8 by have := Hq.out; have := Hm.out; have := HE.out; omega)
      rw [Hq.out, Hm.out, HE.out] at HI2
      have ck := H1.bk.arr_cell i (by rw [HK.out]; omega)
      rw [Hk.out] at ck
      by_cases e3 : i % 4 = 3
      · have em : (i : Int) % 4 = 3 := by omega
        have Hcl := hd (show Cha.clampB i k = k &&& 15 by unfold Cha.clampB; rw [if_pos e3])
        rw [Hcl.out] at HI2
        go_wp2
        refine x_start 14 (Rc.P1 w key r) (by kernel_rfl) (H1.next (Below.refl _ _).drew) ?_
        refine Reg.xt (v := .int .i64 ((i : Nat) : Int)) 0 (fun W hW => run_move (by rfl) (by simp [Act.eval]) W) (by kernel_rfl) rfl rfl (fun _ _ _ h => h) ?_
        simp only [PS]
        refine Reg.xt 1 (fun W hW => Reg.quoN (by rfl) i 2 q (by decide) Hq.out (by have := HB.out; omega) (by simp [Act.eval]) (by simp [Act.eval])) (by kernel_rfl) rfl rfl (fun _ _ _ h => h) ?_
        simp only [PS]
        refine Reg.xt (v := .int .i64 ((i : Nat) : Int)) 2 (fun W hW => run_move (by rfl) (by simp [Act.eval]) W) (by kernel_rfl) rfl rfl (fun _ _ _ h => h) ?_
        simp only [PS]
        refine Reg.xt 3 (fun W hW => Reg.quoN (by rfl) i 2 q (by decide) Hq.out (by have := HB.out; omega) (by simp [Act.eval]) (by simp [Act.eval])) (by kernel_rfl) rfl rfl (fun _ _ _ h => h) ?_
        simp only [PS]
        refine Reg.xt 4 (fun W hW => Reg.idx (by rfl) Try.underlying136 Reg.sz64 (w.heap.size + 1 + 1) (q) (by simp [Act.eval]) (by simp [Act.eval]) HB.out.2.1) (by kernel_rfl) rfl rfl (fun _ _ _ h => h) ?_
        simp only [PS]
        refine Reg.xt (v := .int .u64 ((n64 (Cha.at64 r q) : Nat) : Int)) 5 (fun W hW => Reg.ld Reg.na64 (by rfl) ⟨w.heap.size + 1 + 1, q, none⟩ _ (by simp [Act.eval]) (Cha.Blk.cell64 hW.br q (by rw [Lr.out]; exact HB.out.2.1))) (by kernel_rfl) rfl rfl (fun _ _ _ h => h) ?_
        simp only [PS]
        refine Reg.xt (v := .int .u8 ((n8 (k &&& 15) : Nat) : Int)) 6 (fun W hW => run_move (by rfl) (by simp [Act.eval]) W) (by kernel_rfl) rfl rfl (fun _ _ _ h => h) ?_
        simp only [PS]
        refine Reg.xt (v := .int .u64 ((n64 ((k &&& 15 : UInt8).toUInt64) : Nat) : Int)) 7 (fun W hW => Reg.conv8 (by rfl) _ (by simp [Act.eval])) (by kernel_rfl) rfl rfl (fun _ _ _ h => h) ?_
        simp only [PS]
        refine Reg.xt (v := .int .i64 ((i : Nat) : Int)) 8 (fun W hW => run_move (by rfl) (by simp [Act.eval]) W) (by kernel_rfl) rfl rfl (fun _ _ _ h => h) ?_
        simp only [PS]
        refine Reg.xt 9 (fun W hW => Rc.remN (by rfl) i 2 m (by decide) Hm.out (by simp [Act.eval]) (by simp [Act.eval])) (by kernel_rfl) rfl rfl (fun _ _ _ h => h) ?_
        simp only [PS]
        refine Reg.xt 10 (fun W hW => Rc.mulN (by rfl) 8 m E HE.out (by have := HB.out; omega) (by simp [Act.eval]) (by simp [Act.eval])) (by kernel_rfl) rfl rfl (fun _ _ _ h => h) ?_
        simp only [PS]
        refine Reg.xt (v := .int .u64 ((n64 (shl64 (k &&& 15 : UInt8).toUInt64 E) : Nat) : Int)) 11 (fun W hW => Reg.shlV (by rfl) _ E (by simp [Act.eval]) (by simp [Act.eval])) (by kernel_rfl) rfl rfl (fun _ _ _ h => h) ?_
        simp only [PS]
        refine Reg.xt (v := .int .u64 ((n64 (Cha.at64 r q ||| shl64 (k &&& 15 : UInt8).toUInt64 E) : Nat) : Int)) 12 (fun W hW => Reg.or64 (by rfl) _ _ (by simp [Act.eval]) (by simp [Act.eval])) (by kernel_rfl) rfl rfl (fun _ _ _ h => h) ?_
        simp only [PS]
        refine Reg.xt 13 (fun W hW => Reg.idx (by rfl) Try.underlying136 Reg.sz64 (w.heap.size + 1 + 1) (q) (by simp [Act.eval]) (by simp [Act.eval]) HB.out.2.1) (by kernel_rfl) rfl rfl (fun _ _ _ h => h) ?_
        simp only [PS]
        refine x_last (by kernel_rfl) (by kernel_rfl) (fun W hW _ => ?_) _
        refine op_skip (o := _) rfl (wanted_plain rfl) _ (Reg.st_ Reg.na64 Reg.sz64 (by rfl) ⟨w.heap.size + 1 + 1, q, none⟩ .u64 ((n64 (Cha.at64 r q ||| shl64 (k &&& 15 : UInt8).toUInt64 E) : Nat) : Int) _ (by simp [Act.eval]) (by simp [Act.eval]) (Cha.Blk.cell64 hW.br q (by rw [Lr.out]; exact HB.out.2.1)) (hW.br.frozen q)) ?_
        simp only [PS]
        have H2 := hW.set_ q (Cha.at64 r q ||| shl64 (k &&& 15 : UInt8).toUInt64 E)
        clear hW H1 ck
        go_wp2
        go_roundw
        case rel => exact ⟨i + 1, _, by omega, by go_num, HI2, H2⟩
        case measure => simp [intOf]; omega
      · by_cases e0 : i % 4 = 0
        · by_cases ep : 0 < i
          · have em : (i : Int) % 4 = 0 := by omega
            have tp : (0 : Int) < (i : Int) := by omega
            have Hcl := hd (show Cha.clampB i k = k &&& 252 by unfold Cha.clampB; rw [if_neg e3, if_pos ⟨e0, ep⟩])
            rw [Hcl.out] at HI2
            go_wp2
            refine x_start 14 (Rc.P1 w key r) (by kernel_rfl) (H1.next (Below.refl _ _).drew) ?_
            refine Reg.xt (v := .int .i64 ((i : Nat) : Int)) 0 (fun W hW => run_move (by rfl) (by simp [Act.eval]) W) (by kernel_rfl) rfl rfl (fun _ _ _ h => h) ?_
            simp only [PS]
            refine Reg.xt 1 (fun W hW => Reg.quoN (by rfl) i 2 q (by decide) Hq.out (by have := HB.out; omega) (by simp [Act.eval]) (by simp [Act.eval])) (by kernel_rfl) rfl rfl (fun _ _ _ h => h) ?_
            simp only [PS]
            refine Reg.xt (v := .int .i64 ((i : Nat) : Int)) 2 (fun W hW => run_move (by rfl) (by simp [Act.eval]) W) (by kernel_rfl) rfl rfl (fun _ _ _ h => h) ?_
            simp only [PS]
            refine Reg.xt 3 (fun W hW => Reg.quoN (by rfl) i 2 q (by decide) Hq.out (by have := HB.out; omega) (by simp [Act.eval]) (by simp [Act.eval])) (by kernel_rfl) rfl rfl (fun _ _ _ h => h) ?_
            simp only [PS]
            refine Reg.xt 4 (fun W hW => Reg.idx (by rfl) Try.underlying136 Reg.sz64 (w.heap.size + 1 + 1) (q) (by simp [Act.eval]) (by simp [Act.eval]) HB.out.2.1) (by kernel_rfl) rfl rfl (fun _ _ _ h => h) ?_
            simp only [PS]
            refine Reg.xt (v := .int .u64 ((n64 (Cha.at64 r q) : Nat) : Int)) 5 (fun W hW => Reg.ld Reg.na64 (by rfl) ⟨w.heap.size + 1 + 1, q, none⟩ _ (by simp [Act.eval]) (Cha.Blk.cell64 hW.br q (by rw [Lr.out]; exact HB.out.2.1))) (by kernel_rfl) rfl rfl (fun _ _ _ h => h) ?_
            simp only [PS]
            refine Reg.xt (v := .int .u8 ((n8 (k &&& 252) : Nat) : Int)) 6 (fun W hW => run_move (by rfl) (by simp [Act.eval]) W) (by kernel_rfl) rfl rfl (fun _ _ _ h => h) ?_
            simp only [PS]
            refine Reg.xt (v := .int .u64 ((n64 ((k &&& 252 : UInt8).toUInt64) : Nat) : Int)) 7 (fun W hW => Reg.conv8 (by rfl) _ (by simp [Act.eval])) (by kernel_rfl) rfl rfl (fun _ _ _ h => h) ?_
            simp only [PS]
            refine Reg.xt (v := .int .i64 ((i : Nat) : Int)) 8 (fun W hW => run_move (by rfl) (by simp [Act.eval]) W) (by kernel_rfl) rfl rfl (fun _ _ _ h => h) ?_
            simp only [PS]
            refine Reg.xt 9 (fun W hW => Rc.remN (by rfl) i 2 m (by decide) Hm.out (by simp [Act.eval]) (by simp [Act.eval])) (by kernel_rfl) rfl rfl (fun _ _ _ h => h) ?_
            simp only [PS]
            refine Reg.xt 10 (fun W hW => Rc.mulN (by rfl) 8 m E HE.out (by have := HB.out; omega) (by simp [Act.eval]) (by simp [Act.eval])) (by kernel_rfl) rfl rfl (fun _ _ _ h => h) ?_
            simp only [PS]
            refine Reg.xt (v := .int .u64 ((n64 (shl64 (k &&& 252 : UInt8).toUInt64 E) : Nat) : Int)) 11 (fun W hW => Reg.shlV (by rfl) _ E (by simp [Act.eval]) (by simp [Act.eval])) (by kernel_rfl) rfl rfl (fun _ _ _ h => h) ?_
            simp only [PS]
            refine Reg.xt (v := .int .u64 ((n64 (Cha.at64 r q ||| shl64 (k &&& 252 : UInt8).toUInt64 E) : Nat) : Int)) 12 (fun W hW => Reg.or64 (by rfl) _ _ (by simp [Act.eval]) (by simp [Act.eval])) (by kernel_rfl) rfl rfl (fun _ _ _ h => h) ?_
            simp only [PS]
            refine Reg.xt 13 (fun W hW => Reg.idx (by rfl) Try.underlying136 Reg.sz64 (w.heap.size + 1 + 1) (q) (by simp [Act.eval]) (by simp [Act.eval]) HB.out.2.1) (by kernel_rfl) rfl rfl (fun _ _ _ h => h) ?_
            simp only [PS]
            refine x_last (by kernel_rfl) (by kernel_rfl) (fun W hW _ => ?_) _
            refine op_skip (o := _) rfl (wanted_plain rfl) _ (Reg.st_ Reg.na64 Reg.sz64 (by rfl) ⟨w.heap.size + 1 + 1, q, none⟩ .u64 ((n64 (Cha.at64 r q ||| shl64 (k &&& 252 : UInt8).toUInt64 E) : Nat) : Int) _ (by simp [Act.eval]) (by simp [Act.eval]) (Cha.Blk.cell64 hW.br q (by rw [Lr.out]; exact HB.out.2.1)) (hW.br.frozen q)) ?_
            simp only [PS]
            have H2 := hW.set_ q (Cha.at64 r q ||| shl64 (k &&& 252 : UInt8).toUInt64 E)
            clear hW H1 ck
            go_wp2
            go_roundw
            case rel => exact ⟨i + 1, _, by omega, by go_num, HI2, H2⟩
            case measure => simp [intOf]; omega
          · have em : (i : Int) % 4 = 0 := by omega
            have tp : ¬ (0 : Int) < (i : Int) := by omega
            have Hcl := hd (show Cha.clampB i k = k by unfold Cha.clampB; rw [if_neg e3, if_neg (fun h => ep h.2)])
            rw [Hcl.out] at HI2
            go_wp2
            refine x_start 14 (Rc.P1 w key r) (by kernel_rfl) (H1.next (Below.refl _ _).drew) ?_
            refine Reg.xt (v := .int .i64 ((i : Nat) : Int)) 0 (fun W hW => run_move (by rfl) (by simp [Act.eval]) W) (by kernel_rfl) rfl rfl (fun _ _ _ h => h) ?_
            simp only [PS]
            refine Reg.xt 1 (fun W hW => Reg.quoN (by rfl) i 2 q (by decide) Hq.out (by have := HB.out; omega) (by simp [Act.eval]) (by simp [Act.eval])) (by kernel_rfl) rfl rfl (fun _ _ _ h => h) ?_
            simp only [PS]
            refine Reg.xt (v := .int .i64 ((i : Nat) : Int)) 2 (fun W hW => run_move (by rfl) (by simp [Act.eval]) W) (by kernel_rfl) rfl rfl (fun _ _ _ h => h) ?_
            simp only [PS]
            refine Reg.xt 3 (fun W hW => Reg.quoN (by rfl) i 2 q (by decide) Hq.out (by have := HB.out; omega) (by simp [Act.eval]) (by simp [Act.eval])) (by kernel_rfl) rfl rfl (fun _ _ _ h => h) ?_
            simp only [PS]
            refine Reg.xt 4 (fun W hW => Reg.idx (by rfl) Try.underlying136 Reg.sz64 (w.heap.size + 1 + 1) (q) (by simp [Act.eval]) (by simp [Act.eval]) HB.out.2.1) (by kernel_rfl) rfl rfl (fun _ _ _ h => h) ?_
            simp only [PS]
            refine Reg.xt (v := .int .u64 ((n64 (Cha.at64 r q) : Nat) : Int)) 5 (fun W hW => Reg.ld Reg.na64 (by rfl) ⟨w.heap.size + 1 + 1, q, none⟩ _ (by simp [Act.eval]) (Cha.Blk.cell64 hW.br q (by rw [Lr.out]; exact HB.out.2.1))) (by kernel_rfl) rfl rfl (fun _ _ _ h => h) ?_
            simp only [PS]
            refine Reg.xt (v := .int .u8 ((n8 (k) : Nat) : Int)) 6 (fun W hW => run_move (by rfl) (by simp [Act.eval]) W) (by kernel_rfl) rfl rfl (fun _ _ _ h => h) ?_
            simp only [PS]
            refine Reg.xt (v := .int .u64 ((n64 ((k : UInt8).toUInt64) : Nat) : Int)) 7 (fun W hW => Reg.conv8 (by rfl) _ (by simp [Act.eval])) (by kernel_rfl) rfl rfl (fun _ _ _ h => h) ?_
            simp only [PS]
            refine Reg.xt (v := .int .i64 ((i : Nat) : Int)) 8 (fun W hW => run_move (by rfl) (by simp [Act.eval]) W) (by kernel_rfl) rfl rfl (fun _ _ _ h => h) ?_
            simp only [PS]
            refine Reg.xt 9 (fun W hW => Rc.remN (by rfl) i 2 m (by decide) Hm.out (by simp [Act.eval]) (by simp [Act.eval])) (by kernel_rfl) rfl rfl (fun _ _ _ h => h) ?_
            simp only [PS]
            refine Reg.xt 10 (fun W hW => Rc.mulN (by rfl) 8 m E HE.out (by have := HB.out; omega) (by simp [Act.eval]) (by simp [Act.eval])) (by kernel_rfl) rfl rfl (fun _ _ _ h => h) ?_
            simp only [PS]
            refine Reg.xt (v := .int .u64 ((n64 (shl64 (k : UInt8).toUInt64 E) : Nat) : Int)) 11 (fun W hW => Reg.shlV (by rfl) _ E (by simp [Act.eval]) (by simp [Act.eval])) (by kernel_rfl) rfl rfl (fun _ _ _ h => h) ?_
            simp only [PS]
            refine Reg.xt (v := .int .u64 ((n64 (Cha.at64 r q ||| shl64 (k : UInt8).toUInt64 E) : Nat) : Int)) 12 (fun W hW => Reg.or64 (by rfl) _ _ (by simp [Act.eval]) (by simp [Act.eval])) (by kernel_rfl) rfl rfl (fun _ _ _ h => h) ?_
            simp only [PS]
            refine Reg.xt 13 (fun W hW => Reg.idx (by rfl) Try.underlying136 Reg.sz64 (w.heap.size + 1 + 1) (q) (by simp [Act.eval]) (by simp [Act.eval]) HB.out.2.1) (by kernel_rfl) rfl rfl (fun _ _ _ h => h) ?_
            simp only [PS]
            refine x_last (by kernel_rfl) (by kernel_rfl) (fun W hW _ => ?_) _
            refine op_skip (o := _) rfl (wanted_plain rfl) _ (Reg.st_ Reg.na64 Reg.sz64 (by rfl) ⟨w.heap.size + 1 + 1, q, none⟩ .u64 ((n64 (Cha.at64 r q ||| shl64 (k : UInt8).toUInt64 E) : Nat) : Int) _ (by simp [Act.eval]) (by simp [Act.eval]) (Cha.Blk.cell64 hW.br q (by rw [Lr.out]; exact HB.out.2.1)) (hW.br.frozen q)) ?_
            simp only [PS]
            have H2 := hW.set_ q (Cha.at64 r q ||| shl64 (k : UInt8).toUInt64 E)
            clear hW H1 ck
            go_wp2
            go_roundw
            case rel => exact ⟨i + 1, _, by omega, by go_num, HI2, H2⟩
            case measure => simp [intOf]; omega
        · obtain ⟨M, HM⟩ : ∃ x, Hd (i % 4 = x) := ⟨_, ⟨rfl⟩⟩
          have em : (i : Int) % 4 = (M : Int) := by have := HM.out; omega
          have t3 : ¬ (M : Int) = 3 := by have := HM.out; omega
          have t0 : ¬ (M : Int) = 0 := by have := HM.out; omega
          have Hcl := hd (show Cha.clampB i k = k by unfold Cha.clampB; rw [if_neg e3, if_neg (fun h => e0 h.1)])
          rw [Hcl.out] at HI2
          go_wp2
          refine x_start 14 (Rc.P1 w key r) (by kernel_rfl) (H1.next (Below.refl _ _).drew) ?_
          refine Reg.xt (v := .int .i64 ((i : Nat) : Int)) 0 (fun W hW => run_move (by rfl) (by simp [Act.eval]) W) (by kernel_rfl) rfl rfl (fun _ _ _ h => h) ?_
          simp only [PS]
          refine Reg.xt 1 (fun W hW => Reg.quoN (by rfl) i 2 q (by decide) Hq.out (by have := HB.out; omega) (by simp [Act.eval]) (by simp [Act.eval])) (by kernel_rfl) rfl rfl (fun _ _ _ h => h) ?_
          simp only [PS]
          refine Reg.xt (v := .int .i64 ((i : Nat) : Int)) 2 (fun W hW => run_move (by rfl) (by simp [Act.eval]) W) (by kernel_rfl) rfl rfl (fun _ _ _ h => h) ?_
          simp only [PS]
          refine Reg.xt 3 (fun W hW => Reg.quoN (by rfl) i 2 q (by decide) Hq.out (by have := HB.out; omega) (by simp [Act.eval]) (by simp [Act.eval])) (by kernel_rfl) rfl rfl (fun _ _ _ h => h) ?_
          simp only [PS]
          refine Reg.xt 4 (fun W hW => Reg.idx (by rfl) Try.underlying136 Reg.sz64 (w.heap.size + 1 + 1) (q) (by simp [Act.eval]) (by simp [Act.eval]) HB.out.2.1) (by kernel_rfl) rfl rfl (fun _ _ _ h => h) ?_
          simp only [PS]
          refine Reg.xt (v := .int .u64 ((n64 (Cha.at64 r q) : Nat) : Int)) 5 (fun W hW => Reg.ld Reg.na64 (by rfl) ⟨w.heap.size + 1 + 1, q, none⟩ _ (by simp [Act.eval]) (Cha.Blk.cell64 hW.br q (by rw [Lr.out]; exact HB.out.2.1))) (by kernel_rfl) rfl rfl (fun _ _ _ h => h) ?_
          simp only [PS]
          refine Reg.xt (v := .int .u8 ((n8 (k) : Nat) : Int)) 6 (fun W hW => run_move (by rfl) (by simp [Act.eval]) W) (by kernel_rfl) rfl rfl (fun _ _ _ h => h) ?_
          simp only [PS]
          refine Reg.xt (v := .int .u64 ((n64 ((k : UInt8).toUInt64) : Nat) : Int)) 7 (fun W hW => Reg.conv8 (by rfl) _ (by simp [Act.eval])) (by kernel_rfl) rfl rfl (fun _ _ _ h => h) ?_
          simp only [PS]
          refine Reg.xt (v := .int .i64 ((i : Nat) : Int)) 8 (fun W hW => run_move (by rfl) (by simp [Act.eval]) W) (by kernel_rfl) rfl rfl (fun _ _ _ h => h) ?_
          simp only [PS]
          refine Reg.xt 9 (fun W hW => Rc.remN (by rfl) i 2 m (by decide) Hm.out (by simp [Act.eval]) (by simp [Act.eval])) (by kernel_rfl) rfl rfl (fun _ _ _ h => h) ?_
          simp only [PS]
          refine Reg.xt 10 (fun W hW => Rc.mulN (by rfl) 8 m E HE.out (by have := HB.out; omega) (by simp [Act.eval]) (by simp [Act.eval])) (by kernel_rfl) rfl rfl (fun _ _ _ h => h) ?_
          simp only [PS]
          refine Reg.xt (v := .int .u64 ((n64 (shl64 (k : UInt8).toUInt64 E) : Nat) : Int)) 11 (fun W hW => Reg.shlV (by rfl) _ E (by simp [Act.eval]) (by simp [Act.eval])) (by kernel_rfl) rfl rfl (fun _ _ _ h => h) ?_
          simp only [PS]
          refine Reg.xt (v := .int .u64 ((n64 (Cha.at64 r q ||| shl64 (k : UInt8).toUInt64 E) : Nat) : Int)) 12 (fun W hW => Reg.or64 (by rfl) _ _ (by simp [Act.eval]) (by simp [Act.eval])) (by kernel_rfl) rfl rfl (fun _ _ _ h => h) ?_
          simp only [PS]
          refine Reg.xt 13 (fun W hW => Reg.idx (by rfl) Try.underlying136 Reg.sz64 (w.heap.size + 1 + 1) (q) (by simp [Act.eval]) (by simp [Act.eval]) HB.out.2.1) (by kernel_rfl) rfl rfl (fun _ _ _ h => h) ?_
          simp only [PS]
          refine x_last (by kernel_rfl) (by kernel_rfl) (fun W hW _ => ?_) _
          refine op_skip (o := _) rfl (wanted_plain rfl) _ (Reg.st_ Reg.na64 Reg.sz64 (by rfl) ⟨w.heap.size + 1 + 1, q, none⟩ .u64 ((n64 (Cha.at64 r q ||| shl64 (k : UInt8).toUInt64 E) : Nat) : Int) _ (by simp [Act.eval]) (by simp [Act.eval]) (Cha.Blk.cell64 hW.br q (by rw [Lr.out]; exact HB.out.2.1)) (hW.br.frozen q)) ?_
          simp only [PS]
          have H2 := hW.set_ q (Cha.at64 r q ||| shl64 (k : UInt8).toUInt64 E)
          clear hW H1 ck
          go_wp2
          go_roundw
          case rel => exact ⟨i + 1, _, by omega, by go_num, HI2, H2⟩
          case measure => simp [intOf]; omega
    · have ei : i = 16 := by omega
      subst ei
      have ti : ¬ ((16 : Nat) : Int) < 16 := by omega
      have Hrd := hd HI.out.done
      clear HI
      obtain ⟨y, Hy⟩ : ∃ z, Hd (wr.heap.size = z) := ⟨_, ⟨rfl⟩⟩
      have hy := H1.br.lt
      rw [Hy.out] at hy
      go_wp2_with (refine wpl_alloc rfl 137 rfl _ Cha.zero9 ?_; rw [Hy.out]; refine wpl_name (Rc.P2 w key r y (List.replicate 9 0)) ⟨H1.next ((Below.refl _ _).alloc (Nat.le_refl _) _), Blk.nu Hy.out.symm⟩ ?_; clear H1; intro W2 H1)
      go_loopw [9] (fun f wr => ∃ (F v : Nat) (a : List UInt64) (p : Cha.P3), F ≤ n + 16 ∧ f = .int .i64 ((F : Nat) : Int) ∧ Hd (Cha.Nine a v) ∧ Hd (Cha.Eqv key text F v p) ∧ Rc.P2 w key r y a wr) (fun f _ => (n + 16 - intOf f).toNat)
      case atStart => exact ⟨0, 0, _, _, by omega, rfl, hd ⟨List.length_replicate .., fun j => by rw [Cha.at64_zeros]; decide, Cha.dval_noughts 9⟩, hd (Cha.Eqv.start key text), H1⟩
      case round =>
        clear H1
        obtain ⟨F, v, a, p, hF, rfl, HN, HQ, H1⟩ := hrel
        by_cases hlF : F < n
        · have tF : (F : Int) < (n : Int) := by omega
          obtain ⟨nr, Hnr⟩ : ∃ x, Hd (n - F = x) := ⟨_, ⟨rfl⟩⟩
          obtain ⟨t, Ht2⟩ : ∃ x, Hd (text.drop F = x) := ⟨_, ⟨rfl⟩⟩
          have Ltt := hd (show t.length = nr by rw [← Ht2.out, List.length_drop, Ht.out, Hnr.out])
          obtain ⟨ad, HD, _, _⟩ := Hr.out.cell hlF
          subst HD
          obtain ⟨p2, hq2⟩ := HQ.out.step HK.out (by rw [Ht.out]; exact hlF)
          rw [Ht2.out] at hq2
          have HQ2 := hd hq2
          have Hsm := hd (show n ≤ 140737488355328 ∧ F < n ∧ n - F = nr from ⟨Hn.out, hlF, Hnr.out⟩)
          have wF : IntKind.i64.wrap ((F : Int) + 16) = (F : Int) + 16 := IntWalk.i64_in _ (by have := Hsm.out; omega)
          have HQ0 := hd HQ.out.lt
          clear hq2 HQ
          have HV := hd HQ0.out
          by_cases h16 : 16 < nr
          · have HLn := hd (show 16 ≤ nr by omega)
            have HLm := hd (show min t.length 16 = 16 by rw [Ltt.out]; omega)
            have HN0 := hd (show Cha.Nine a v ∧ v < 2 ^ 131 from ⟨HN.out, HV.out⟩)
            go_wp2
            go_loopw [10] (fun j wr => ∃ (i : Nat) (b : List UInt64), i ≤ 16 ∧ j = .int .i64 ((i : Nat) : Int) ∧ Hd (Cha.AInv v t i b) ∧ Rc.P2 w key r y b wr) (fun j _ => 16 - (intOf j).toNat)
            case atStart => exact ⟨0, a, by omega, rfl, hd (Cha.AInv.start HN.out t), H1⟩
            case round =>
              clear H1
              obtain ⟨i, b, hi, rfl, HA, H2⟩ := hrel
              have Lb := hd HA.out.len
              have HL16 := hd (show 16 ≤ 16 by omega)
              by_cases hlt : i < 16
              · have ti : (i : Int) < 16 := by have := HL16.out; omega
                obtain ⟨G, HG⟩ : ∃ x, Hd (F + i = x) := ⟨_, ⟨rfl⟩⟩
                have HGn := hd (show G < n ∧ G ≤ 140737488355328 by have := HG.out; have := Hsm.out; have := HLn.out; omega)
                have eG : (F : Int) + (i : Int) = (G : Int) := by have := HG.out; omega
                have wG : IntKind.i64.wrap (G : Int) = (G : Int) := IntWalk.i64_in _ (by have := HGn.out; omega)
                have tG : (G : Int) < (n : Int) := by have := HGn.out; omega
                have hst := HA.out.step (by omega)
                obtain ⟨bt, Hbt0⟩ : ∃ x, Hd (nth t i = x) := ⟨_, ⟨rfl⟩⟩
                have Hbt := hd (show nth text G = bt by rw [← Hbt0.out, ← Ht2.out, ← HG.out]; unfold nth; rw [List.getD_eq_getElem?_getD, List.getD_eq_getElem?_getD, List.getElem?_drop])
                obtain ⟨q, Hq⟩ : ∃ x, Hd (i / 2 = x) := ⟨_, ⟨rfl⟩⟩
                obtain ⟨m, Hm⟩ : ∃ x, Hd (i % 2 = x) := ⟨_, ⟨rfl⟩⟩
                obtain ⟨E, HE⟩ : ∃ x, Hd (8 * m = x) := ⟨_, ⟨rfl⟩⟩
                have HB := hd (show i < 16 ∧ q < 9 ∧ m < 2 ∧ E ≤ 8 by have := Hq.out; have := Hm.out; have := HE.out; have := HL16.out; omega)
                rw [Hbt0.out, Hq.out, Hm.out, HE.out] at hst
                have HA2 := hd hst
                clear hst
                go_wp2
                refine x_start 19 (Rc.P2 w key r y b) (by kernel_rfl) (H2.next (Below.refl _ _).drew) ?_
                refine Reg.xt (v := .int .i64 ((i : Nat) : Int)) 0 (fun W hW => run_move (by rfl) (by simp [Act.eval]) W) (by kernel_rfl) rfl rfl (fun _ _ _ h => h) ?_
                simp only [PS]
                refine Reg.xt 1 (fun W hW => Reg.quoN (by rfl) i 2 q (by decide) Hq.out (by have := HB.out; omega) (by simp [Act.eval]) (by simp [Act.eval])) (by kernel_rfl) rfl rfl (fun _ _ _ h => h) ?_
                simp only [PS]
                refine Reg.xt (v := .int .i64 ((i : Nat) : Int)) 2 (fun W hW => run_move (by rfl) (by simp [Act.eval]) W) (by kernel_rfl) rfl rfl (fun _ _ _ h => h) ?_
                simp only [PS]
                refine Reg.xt 3 (fun W hW => Reg.quoN (by rfl) i 2 q (by decide) Hq.out (by have := HB.out; omega) (by simp [Act.eval]) (by simp [Act.eval])) (by kernel_rfl) rfl rfl (fun _ _ _ h => h) ?_
                simp only [PS]
                refine Reg.xt 4 (fun W hW => Reg.idx (by rfl) Try.underlying137 Reg.sz64 (y) (q) (by simp [Act.eval]) (by simp [Act.eval]) HB.out.2.1) (by kernel_rfl) rfl rfl (fun _ _ _ h => h) ?_
                simp only [PS]
                refine Reg.xt (v := .int .u64 ((n64 (Cha.at64 b q) : Nat) : Int)) 5 (fun W hW => Reg.ld Reg.na64 (by rfl) ⟨y, q, none⟩ _ (by simp [Act.eval]) (Cha.Blk.cell64 hW.ba q (by rw [Lb.out]; exact HB.out.2.1))) (by kernel_rfl) rfl rfl (fun _ _ _ h => h) ?_
                simp only [PS]
                refine Reg.xt (v := .slice (some ad) n d) 6 (fun W hW => run_move (by rfl) (by simp [Act.eval]) W) (by kernel_rfl) rfl rfl (fun _ _ _ h => h) ?_
                simp only [PS]
                refine Reg.xt (v := .int .i64 ((F : Nat) : Int)) 7 (fun W hW => run_move (by rfl) (by simp [Act.eval]) W) (by kernel_rfl) rfl rfl (fun _ _ _ h => h) ?_
                simp only [PS]
                refine Reg.xt (v := .int .i64 ((i : Nat) : Int)) 8 (fun W hW => run_move (by rfl) (by simp [Act.eval]) W) (by kernel_rfl) rfl rfl (fun _ _ _ h => h) ?_
                simp only [PS]
                refine Reg.xt 9 (fun W hW => Rc.addBig (by rfl) F i G HG.out HGn.out.2 (by simp [Act.eval]) (by simp [Act.eval])) (by kernel_rfl) rfl rfl (fun _ _ _ h => h) ?_
                simp only [PS]
                refine Reg.xt 10 (fun W hW => Reg.idxS (by rfl) Try.underlying24 Reg.sz8 ad n d G (by simp [Act.eval]) (by simp [Act.eval]) HGn.out.1) (by kernel_rfl) rfl rfl (fun _ _ _ h => h) ?_
                simp only [PS]
                refine Reg.xt (v := .int .u8 ((n8 (bt) : Nat) : Int)) 11 (fun W hW => Reg.ld Reg.na8 (by rfl) (ad.add G) _ (by simp [Act.eval]) (Rc.text_cell Hr.out hW.p1.old HGn.out.1 Hbt.out)) (by kernel_rfl) rfl rfl (fun _ _ _ h => h) ?_
                simp only [PS]
                refine Reg.xt (v := .int .u64 ((n64 (bt.toUInt64) : Nat) : Int)) 12 (fun W hW => Reg.conv8 (by rfl) _ (by simp [Act.eval])) (by kernel_rfl) rfl rfl (fun _ _ _ h => h) ?_
                simp only [PS]
                refine Reg.xt (v := .int .i64 ((i : Nat) : Int)) 13 (fun W hW => run_move (by rfl) (by simp [Act.eval]) W) (by kernel_rfl) rfl rfl (fun _ _ _ h => h) ?_
                simp only [PS]
                refine Reg.xt 14 (fun W hW => Rc.remN (by rfl) i 2 m (by decide) Hm.out (by simp [Act.eval]) (by simp [Act.eval])) (by kernel_rfl) rfl rfl (fun _ _ _ h => h) ?_
                simp only [PS]
                refine Reg.xt 15 (fun W hW => Rc.mulN (by rfl) 8 m E HE.out (by have := HB.out; omega) (by simp [Act.eval]) (by simp [Act.eval])) (by kernel_rfl) rfl rfl (fun _ _ _ h => h) ?_
                simp only [PS]
                refine Reg.xt (v := .int .u64 ((n64 (shl64 bt.toUInt64 E) : Nat) : Int)) 16 (fun W hW => Reg.shlV (by rfl) _ E (by simp [Act.eval]) (by simp [Act.eval])) (by kernel_rfl) rfl rfl (fun _ _ _ h => h) ?_
                simp only [PS]
                refine Reg.xt (v := .int .u64 ((n64 (Cha.at64 b q + shl64 bt.toUInt64 E) : Nat) : Int)) 17 (fun W hW => Reg.add64 (by rfl) _ _ (by simp [Act.eval]) (by simp [Act.eval])) (by kernel_rfl) rfl rfl (fun _ _ _ h => h) ?_
                simp only [PS]
                refine Reg.xt 18 (fun W hW => Reg.idx (by rfl) Try.underlying137 Reg.sz64 (y) (q) (by simp [Act.eval]) (by simp [Act.eval]) HB.out.2.1) (by kernel_rfl) rfl rfl (fun _ _ _ h => h) ?_
                simp only [PS]
                refine x_last (by kernel_rfl) (by kernel_rfl) (fun W hW _ => ?_) _
                refine op_skip (o := _) rfl (wanted_plain rfl) _ (Reg.st_ Reg.na64 Reg.sz64 (by rfl) ⟨y, q, none⟩ .u64 ((n64 (Cha.at64 b q + shl64 bt.toUInt64 E) : Nat) : Int) _ (by simp [Act.eval]) (by simp [Act.eval]) (Cha.Blk.cell64 hW.ba q (by rw [Lb.out]; exact HB.out.2.1)) (hW.ba.frozen q)) ?_
                simp only [PS]
                have H3 := hW.set_ hy q (Cha.at64 b q + shl64 bt.toUInt64 E)
                clear hW H2
                go_wp2
                go_roundw
                case rel => exact ⟨i + 1, _, by omega, by go_num, HA2, H3⟩
                case measure => have := HB.out; simp [intOf]; omega
              · have ei : i = 16 := by omega
                subst ei
                have te : ¬ ((16 : Nat) : Int) < 16 := by omega
                have hAd := Cha.AInv.done (v := v) (t := t) (a := b) (by rw [HLm.out]; exact HA.out)
                rw [HLm.out] at hAd
                obtain ⟨ql, Hql⟩ : ∃ x, Hd (16 / 2 = x) := ⟨_, ⟨rfl⟩⟩
                obtain ⟨ml, Hml⟩ : ∃ x, Hd (16 % 2 = x) := ⟨_, ⟨rfl⟩⟩
                obtain ⟨El, HEl⟩ : ∃ x, Hd (8 * ml = x) := ⟨_, ⟨rfl⟩⟩
                have HBl := hd (show 16 ≤ 16 ∧ ql < 9 ∧ ml < 2 ∧ El ≤ 8 by have := Hql.out; have := Hml.out; have := HEl.out; have := HL16.out; omega)
                rw [Hql.out, Hml.out, HEl.out] at hAd
                obtain ⟨b2, Hb2⟩ : ∃ x, Hd (b.set ql (Cha.at64 b ql + shl64 1 El) = x) := ⟨_, ⟨rfl⟩⟩
                rw [Hb2.out] at hAd
                have HAd := hd hAd
                clear hAd HA
                have wn : (n : Int) - (F : Int) = (nr : Int) := by have := Hsm.out; omega
                have wn2 : IntKind.i64.wrap (nr : Int) = (nr : Int) := IntWalk.i64_in _ (by have := Hsm.out; omega)
                have tn : (16 : Int) < (nr : Int) := by omega
                clear h16
                go_wp2
                refine x_start 12 (Rc.P2 w key r y b) (by kernel_rfl) (H2.next (Below.refl _ _).drew) ?_
                refine Reg.xt (v := .int .i64 ((16 : Nat) : Int)) 0 (fun W hW => run_move (by rfl) (by simp [Act.eval]) W) (by kernel_rfl) rfl rfl (fun _ _ _ h => h) ?_
                simp only [PS]
                refine Reg.xt 1 (fun W hW => Reg.quoN (by rfl) 16 2 ql (by decide) Hql.out (by have := HBl.out; omega) (by simp [Act.eval]) (by simp [Act.eval])) (by kernel_rfl) rfl rfl (fun _ _ _ h => h) ?_
                simp only [PS]
                refine Reg.xt (v := .int .i64 ((16 : Nat) : Int)) 2 (fun W hW => run_move (by rfl) (by simp [Act.eval]) W) (by kernel_rfl) rfl rfl (fun _ _ _ h => h) ?_
                simp only [PS]
                refine Reg.xt 3 (fun W hW => Reg.quoN (by rfl) 16 2 ql (by decide) Hql.out (by have := HBl.out; omega) (by simp [Act.eval]) (by simp [Act.eval])) (by kernel_rfl) rfl rfl (fun _ _ _ h => h) ?_
                simp only [PS]
                refine Reg.xt 4 (fun W hW => Reg.idx (by rfl) Try.underlying137 Reg.sz64 (y) (ql) (by simp [Act.eval]) (by simp [Act.eval]) HBl.out.2.1) (by kernel_rfl) rfl rfl (fun _ _ _ h => h) ?_
                simp only [PS]
                refine Reg.xt (v := .int .u64 ((n64 (Cha.at64 b ql) : Nat) : Int)) 5 (fun W hW => Reg.ld Reg.na64 (by rfl) ⟨y, ql, none⟩ _ (by simp [Act.eval]) (Cha.Blk.cell64 hW.ba ql (by rw [Lb.out]; exact HBl.out.2.1))) (by kernel_rfl) rfl rfl (fun _ _ _ h => h) ?_
                simp only [PS]
                refine Reg.xt (v := .int .i64 ((16 : Nat) : Int)) 6 (fun W hW => run_move (by rfl) (by simp [Act.eval]) W) (by kernel_rfl) rfl rfl (fun _ _ _ h => h) ?_
                simp only [PS]
                refine Reg.xt 7 (fun W hW => Rc.remN (by rfl) 16 2 ml (by decide) Hml.out (by simp [Act.eval]) (by simp [Act.eval])) (by kernel_rfl) rfl rfl (fun _ _ _ h => h) ?_
                simp only [PS]
                refine Reg.xt 8 (fun W hW => Rc.mulN (by rfl) 8 ml El HEl.out (by have := HBl.out; omega) (by simp [Act.eval]) (by simp [Act.eval])) (by kernel_rfl) rfl rfl (fun _ _ _ h => h) ?_
                simp only [PS]
                refine Reg.xt (v := .int .u64 ((n64 (shl64 1 El) : Nat) : Int)) 9 (fun W hW => Reg.shlOne (by rfl) El (by simp [Act.eval]) (by simp [Act.eval])) (by kernel_rfl) rfl rfl (fun _ _ _ h => h) ?_
                simp only [PS]
                refine Reg.xt (v := .int .u64 ((n64 (Cha.at64 b ql + shl64 1 El) : Nat) : Int)) 10 (fun W hW => Reg.add64 (by rfl) _ _ (by simp [Act.eval]) (by simp [Act.eval])) (by kernel_rfl) rfl rfl (fun _ _ _ h => h) ?_
                simp only [PS]
                refine Reg.xt 11 (fun W hW => Reg.idx (by rfl) Try.underlying137 Reg.sz64 (y) (ql) (by simp [Act.eval]) (by simp [Act.eval]) HBl.out.2.1) (by kernel_rfl) rfl rfl (fun _ _ _ h => h) ?_
                simp only [PS]
                refine x_last (by kernel_rfl) (by kernel_rfl) (fun W hW _ => ?_) _
                refine op_skip (o := _) rfl (wanted_plain rfl) _ (Reg.st_ Reg.na64 Reg.sz64 (by rfl) ⟨y, ql, none⟩ .u64 ((n64 (Cha.at64 b ql + shl64 1 El) : Nat) : Int) _ (by simp [Act.eval]) (by simp [Act.eval]) (Cha.Blk.cell64 hW.ba ql (by rw [Lb.out]; exact HBl.out.2.1)) (hW.ba.frozen ql)) ?_
                simp only [PS]
                have H3 := hW.set_ hy ql (Cha.at64 b ql + shl64 1 El)
                rw [Hb2.out] at H3
                clear hW H2
                have Lb2 := hd HAd.out.1
                have hX : Cha.dval b2 * Cha.dval r < 2 ^ 260 := by rw [HAd.out.2.1, Hrd.out.1]; exact Cha.Eqv.mul key t HK.out v HN0.out.2
                have Hpr := hd (Rc.product_any b2 r Lb2.out Lr.out HAd.out.2.2 Hrd.out.2 hX)
                clear hX
                obtain ⟨W4, HW4⟩ : ∃ x, Hd (W.setCell ⟨y, ql, none⟩ (.int .u64 ((n64 (Cha.at64 b ql + shl64 1 El) : Nat) : Int)) = x) := ⟨_, ⟨rfl⟩⟩
                rw [HW4.out] at H3 ⊢
                go_wp2_with (first
                  | (refine wpl_load rfl 137 _ rfl ⟨y, 0, none⟩ rfl 9 Cha.agg9 (b2.map Cha.V64) (by rw [List.length_map, Lb2.out]) H3.ba.cells ?_)
                  | (refine wpl_load rfl 136 _ rfl ⟨w.heap.size + 1 + 1, 0, none⟩ rfl 8 Cha.agg8 (r.map Cha.V64) (by rw [List.length_map, Lr.out]) H3.p1.br.cells ?_)
                  | (go_at_call 80; refine (Hpr.out W4).mono ?_; rintro e W5 ⟨a2, rfl, hn2, hE⟩; rw [HAd.out.2.1, Hrd.out.1] at hn2; have H5 := H3.next hE; have HN2 := hd hn2; have La2 := hd hn2.len; clear hn2)
                  | (refine wpl_store rfl 137 _ _ rfl y 0 (a2.map Cha.V64) rfl rfl 137 _ H5.ba (by rw [List.length_map, La2.out]; kernel_rfl) (by rw [List.length_map, La2.out, Cha.row64_size, Lb2.out]; decide) (by simp [Cha.V64, Value.oneCell']) ?_; rw [splice_all _ _ (by rw [List.length_map, La2.out, Cha.row64_size, Lb2.out])]; refine wpl_name (Rc.P2 w key r y a2) (H5.put hy a2) ?_; clear H5 H3; intro W6 H6))
                go_roundw
                case rel => exact ⟨F + 16, _, a2, p2, by have := Hsm.out; omega, by go_num, HN2, HQ2, H6⟩
                case measure => have := Hsm.out; simp [intOf]; omega
          · by_cases h15 : nr = 16
            · have HLn := hd (show 16 ≤ nr by omega)
              have HLm := hd (show min t.length 16 = 16 by rw [Ltt.out]; omega)
              have HN0 := hd (show Cha.Nine a v ∧ v < 2 ^ 131 from ⟨HN.out, HV.out⟩)
              go_wp2
              go_loopw [10] (fun j wr => ∃ (i : Nat) (b : List UInt64), i ≤ 16 ∧ j = .int .i64 ((i : Nat) : Int) ∧ Hd (Cha.AInv v t i b) ∧ Rc.P2 w key r y b wr) (fun j _ => 16 - (intOf j).toNat)
              case atStart => exact ⟨0, a, by omega, rfl, hd (Cha.AInv.start HN.out t), H1⟩
              case round =>
                clear H1
                obtain ⟨i, b, hi, rfl, HA, H2⟩ := hrel
                have Lb := hd HA.out.len
                have HL16 := hd (show 16 ≤ 16 by omega)
                by_cases hlt : i < 16
                · have ti : (i : Int) < 16 := by have := HL16.out; omega
                  obtain ⟨G, HG⟩ : ∃ x, Hd (F + i = x) := ⟨_, ⟨rfl⟩⟩
                  have HGn := hd (show G < n ∧ G ≤ 140737488355328 by have := HG.out; have := Hsm.out; have := HLn.out; omega)
                  have eG : (F : Int) + (i : Int) = (G : Int) := by have := HG.out; omega
                  have wG : IntKind.i64.wrap (G : Int) = (G : Int) := IntWalk.i64_in _ (by have := HGn.out; omega)
                  have tG : (G : Int) < (n : Int) := by have := HGn.out; omega
                  have hst := HA.out.step (by omega)
                  obtain ⟨bt, Hbt0⟩ : ∃ x, Hd (nth t i = x) := ⟨_, ⟨rfl⟩⟩
                  have Hbt := hd (show nth text G = bt by rw [← Hbt0.out, ← Ht2.out, ← HG.out]; unfold nth; rw [List.getD_eq_getElem?_getD, List.getD_eq_getElem?_getD, List.getElem?_drop])
                  obtain ⟨q, Hq⟩ : ∃ x, Hd (i / 2 = x) := ⟨_, ⟨rfl⟩⟩
                  obtain ⟨m, Hm⟩ : ∃ x, Hd (i % 2 = x) := ⟨_, ⟨rfl⟩⟩
                  obtain ⟨E, HE⟩ : ∃ x, Hd (8 * m = x) := ⟨_, ⟨rfl⟩⟩
                  have HB := hd (show i < 16 ∧ q < 9 ∧ m < 2 ∧ E ≤ 8 by have := Hq.out; have := Hm.out; have := HE.out; have := HL16.out; omega)
                  rw [Hbt0.out, Hq.out, Hm.out, HE.out] at hst
                  have HA2 := hd hst
                  clear hst
                  go_wp2
                  refine x_start 19 (Rc.P2 w key r y b) (by kernel_rfl) (H2.next (Below.refl _ _).drew) ?_
                  refine Reg.xt (v := .int .i64 ((i : Nat) : Int)) 0 (fun W hW => run_move (by rfl) (by simp [Act.eval]) W) (by kernel_rfl) rfl rfl (fun _ _ _ h => h) ?_
                  simp only [PS]
                  refine Reg.xt 1 (fun W hW => Reg.quoN (by rfl) i 2 q (by decide) Hq.out (by have := HB.out; omega) (by simp [Act.eval]) (by simp [Act.eval])) (by kernel_rfl) rfl rfl (fun _ _ _ h => h) ?_
                  simp only [PS]
                  refine Reg.xt (v := .int .i64 ((i : Nat) : Int)) 2 (fun W hW => run_move (by rfl) (by simp [Act.eval]) W) (by kernel_rfl) rfl rfl (fun _ _ _ h => h) ?_
                  simp only [PS]
                  refine Reg.xt 3 (fun W hW => Reg.quoN (by rfl) i 2 q (by decide) Hq.out (by have := HB.out; omega) (by simp [Act.eval]) (by simp [Act.eval])) (by kernel_rfl) rfl rfl (fun _ _ _ h => h) ?_
                  simp only [PS]
                  refine Reg.xt 4 (fun W hW => Reg.idx (by rfl) Try.underlying137 Reg.sz64 (y) (q) (by simp [Act.eval]) (by simp [Act.eval]) HB.out.2.1) (by kernel_rfl) rfl rfl (fun _ _ _ h => h) ?_
                  simp only [PS]
                  refine Reg.xt (v := .int .u64 ((n64 (Cha.at64 b q) : Nat) : Int)) 5 (fun W hW => Reg.ld Reg.na64 (by rfl) ⟨y, q, none⟩ _ (by simp [Act.eval]) (Cha.Blk.cell64 hW.ba q (by rw [Lb.out]; exact HB.out.2.1))) (by kernel_rfl) rfl rfl (fun _ _ _ h => h) ?_
                  simp only [PS]
                  refine Reg.xt (v := .slice (some ad) n d) 6 (fun W hW => run_move (by rfl) (by simp [Act.eval]) W) (by kernel_rfl) rfl rfl (fun _ _ _ h => h) ?_
                  simp only [PS]
                  refine Reg.xt (v := .int .i64 ((F : Nat) : Int)) 7 (fun W hW => run_move (by rfl) (by simp [Act.eval]) W) (by kernel_rfl) rfl rfl (fun _ _ _ h => h) ?_
                  simp only [PS]
                  refine Reg.xt (v := .int .i64 ((i : Nat) : Int)) 8 (fun W hW => run_move (by rfl) (by simp [Act.eval]) W) (by kernel_rfl) rfl rfl (fun _ _ _ h => h) ?_
                  simp only [PS]
                  refine Reg.xt 9 (fun W hW => Rc.addBig (by rfl) F i G HG.out HGn.out.2 (by simp [Act.eval]) (by simp [Act.eval])) (by kernel_rfl) rfl rfl (fun _ _ _ h => h) ?_
                  simp only [PS]
                  refine Reg.xt 10 (fun W hW => Reg.idxS (by rfl) Try.underlying24 Reg.sz8 ad n d G (by simp [Act.eval]) (by simp [Act.eval]) HGn.out.1) (by kernel_rfl) rfl rfl (fun _ _ _ h => h) ?_
                  simp only [PS]
                  refine Reg.xt (v := .int .u8 ((n8 (bt) : Nat) : Int)) 11 (fun W hW => Reg.ld Reg.na8 (by rfl) (ad.add G) _ (by simp [Act.eval]) (Rc.text_cell Hr.out hW.p1.old HGn.out.1 Hbt.out)) (by kernel_rfl) rfl rfl (fun _ _ _ h => h) ?_
                  simp only [PS]
                  refine Reg.xt (v := .int .u64 ((n64 (bt.toUInt64) : Nat) : Int)) 12 (fun W hW => Reg.conv8 (by rfl) _ (by simp [Act.eval])) (by kernel_rfl) rfl rfl (fun _ _ _ h => h) ?_
                  simp only [PS]
                  refine Reg.xt (v := .int .i64 ((i : Nat) : Int)) 13 (fun W hW => run_move (by rfl) (by simp [Act.eval]) W) (by kernel_rfl) rfl rfl (fun _ _ _ h => h) ?_
                  simp only [PS]
                  refine Reg.xt 14 (fun W hW => Rc.remN (by rfl) i 2 m (by decide) Hm.out (by simp [Act.eval]) (by simp [Act.eval])) (by kernel_rfl) rfl rfl (fun _ _ _ h => h) ?_
                  simp only [PS]
                  refine Reg.xt 15 (fun W hW => Rc.mulN (by rfl) 8 m E HE.out (by have := HB.out; omega) (by simp [Act.eval]) (by simp [Act.eval])) (by kernel_rfl) rfl rfl (fun _ _ _ h => h) ?_
                  simp only [PS]
                  refine Reg.xt (v := .int .u64 ((n64 (shl64 bt.toUInt64 E) : Nat) : Int)) 16 (fun W hW => Reg.shlV (by rfl) _ E (by simp [Act.eval]) (by simp [Act.eval])) (by kernel_rfl) rfl rfl (fun _ _ _ h => h) ?_
                  simp only [PS]
                  refine Reg.xt (v := .int .u64 ((n64 (Cha.at64 b q + shl64 bt.toUInt64 E) : Nat) : Int)) 17 (fun W hW => Reg.add64 (by rfl) _ _ (by simp [Act.eval]) (by simp [Act.eval])) (by kernel_rfl) rfl rfl (fun _ _ _ h => h) ?_
                  simp only [PS]
                  refine Reg.xt 18 (fun W hW => Reg.idx (by rfl) Try.underlying137 Reg.sz64 (y) (q) (by simp [Act.eval]) (by simp [Act.eval]) HB.out.2.1) (by kernel_rfl) rfl rfl (fun _ _ _ h => h) ?_
                  simp only [PS]
                  refine x_last (by kernel_rfl) (by kernel_rfl) (fun W hW _ => ?_) _
                  refine op_skip (o := _) rfl (wanted_plain rfl) _ (Reg.st_ Reg.na64 Reg.sz64 (by rfl) ⟨y, q, none⟩ .u64 ((n64 (Cha.at64 b q + shl64 bt.toUInt64 E) : Nat) : Int) _ (by simp [Act.eval]) (by simp [Act.eval]) (Cha.Blk.cell64 hW.ba q (by rw [Lb.out]; exact HB.out.2.1)) (hW.ba.frozen q)) ?_
                  simp only [PS]
                  have H3 := hW.set_ hy q (Cha.at64 b q + shl64 bt.toUInt64 E)
                  clear hW H2
                  go_wp2
                  go_roundw
                  case rel => exact ⟨i + 1, _, by omega, by go_num, HA2, H3⟩
                  case measure => have := HB.out; simp [intOf]; omega
                · have ei : i = 16 := by omega
                  subst ei
                  have te : ¬ ((16 : Nat) : Int) < 16 := by omega
                  have hAd := Cha.AInv.done (v := v) (t := t) (a := b) (by rw [HLm.out]; exact HA.out)
                  rw [HLm.out] at hAd
                  obtain ⟨ql, Hql⟩ : ∃ x, Hd (16 / 2 = x) := ⟨_, ⟨rfl⟩⟩
                  obtain ⟨ml, Hml⟩ : ∃ x, Hd (16 % 2 = x) := ⟨_, ⟨rfl⟩⟩
                  obtain ⟨El, HEl⟩ : ∃ x, Hd (8 * ml = x) := ⟨_, ⟨rfl⟩⟩
                  have HBl := hd (show 16 ≤ 16 ∧ ql < 9 ∧ ml < 2 ∧ El ≤ 8 by have := Hql.out; have := Hml.out; have := HEl.out; have := HL16.out; omega)
                  rw [Hql.out, Hml.out, HEl.out] at hAd
                  obtain ⟨b2, Hb2⟩ : ∃ x, Hd (b.set ql (Cha.at64 b ql + shl64 1 El) = x) := ⟨_, ⟨rfl⟩⟩
                  rw [Hb2.out] at hAd
                  have HAd := hd hAd
                  clear hAd HA
                  have wn : (n : Int) - (F : Int) = ((16 : Nat) : Int) := by have := Hsm.out; omega
                  clear h16
                  go_wp2
                  refine x_start 12 (Rc.P2 w key r y b) (by kernel_rfl) (H2.next (Below.refl _ _).drew) ?_
                  refine Reg.xt (v := .int .i64 ((16 : Nat) : Int)) 0 (fun W hW => run_move (by rfl) (by simp [Act.eval]) W) (by kernel_rfl) rfl rfl (fun _ _ _ h => h) ?_
                  simp only [PS]
                  refine Reg.xt 1 (fun W hW => Reg.quoN (by rfl) 16 2 ql (by decide) Hql.out (by have := HBl.out; omega) (by simp [Act.eval]) (by simp [Act.eval])) (by kernel_rfl) rfl rfl (fun _ _ _ h => h) ?_
                  simp only [PS]
                  refine Reg.xt (v := .int .i64 ((16 : Nat) : Int)) 2 (fun W hW => run_move (by rfl) (by simp [Act.eval]) W) (by kernel_rfl) rfl rfl (fun _ _ _ h => h) ?_
                  simp only [PS]
                  refine Reg.xt 3 (fun W hW => Reg.quoN (by rfl) 16 2 ql (by decide) Hql.out (by have := HBl.out; omega) (by simp [Act.eval]) (by simp [Act.eval])) (by kernel_rfl) rfl rfl (fun _ _ _ h => h) ?_
                  simp only [PS]
                  refine Reg.xt 4 (fun W hW => Reg.idx (by rfl) Try.underlying137 Reg.sz64 (y) (ql) (by simp [Act.eval]) (by simp [Act.eval]) HBl.out.2.1) (by kernel_rfl) rfl rfl (fun _ _ _ h => h) ?_
                  simp only [PS]
                  refine Reg.xt (v := .int .u64 ((n64 (Cha.at64 b ql) : Nat) : Int)) 5 (fun W hW => Reg.ld Reg.na64 (by rfl) ⟨y, ql, none⟩ _ (by simp [Act.eval]) (Cha.Blk.cell64 hW.ba ql (by rw [Lb.out]; exact HBl.out.2.1))) (by kernel_rfl) rfl rfl (fun _ _ _ h => h) ?_
                  simp only [PS]
                  refine Reg.xt (v := .int .i64 ((16 : Nat) : Int)) 6 (fun W hW => run_move (by rfl) (by simp [Act.eval]) W) (by kernel_rfl) rfl rfl (fun _ _ _ h => h) ?_
                  simp only [PS]
                  refine Reg.xt 7 (fun W hW => Rc.remN (by rfl) 16 2 ml (by decide) Hml.out (by simp [Act.eval]) (by simp [Act.eval])) (by kernel_rfl) rfl rfl (fun _ _ _ h => h) ?_
                  simp only [PS]
                  refine Reg.xt 8 (fun W hW => Rc.mulN (by rfl) 8 ml El HEl.out (by have := HBl.out; omega) (by simp [Act.eval]) (by simp [Act.eval])) (by kernel_rfl) rfl rfl (fun _ _ _ h => h) ?_
                  simp only [PS]
                  refine Reg.xt (v := .int .u64 ((n64 (shl64 1 El) : Nat) : Int)) 9 (fun W hW => Reg.shlOne (by rfl) El (by simp [Act.eval]) (by simp [Act.eval])) (by kernel_rfl) rfl rfl (fun _ _ _ h => h) ?_
                  simp only [PS]
                  refine Reg.xt (v := .int .u64 ((n64 (Cha.at64 b ql + shl64 1 El) : Nat) : Int)) 10 (fun W hW => Reg.add64 (by rfl) _ _ (by simp [Act.eval]) (by simp [Act.eval])) (by kernel_rfl) rfl rfl (fun _ _ _ h => h) ?_
                  simp only [PS]
                  refine Reg.xt 11 (fun W hW => Reg.idx (by rfl) Try.underlying137 Reg.sz64 (y) (ql) (by simp [Act.eval]) (by simp [Act.eval]) HBl.out.2.1) (by kernel_rfl) rfl rfl (fun _ _ _ h => h) ?_
                  simp only [PS]
                  refine x_last (by kernel_rfl) (by kernel_rfl) (fun W hW _ => ?_) _
                  refine op_skip (o := _) rfl (wanted_plain rfl) _ (Reg.st_ Reg.na64 Reg.sz64 (by rfl) ⟨y, ql, none⟩ .u64 ((n64 (Cha.at64 b ql + shl64 1 El) : Nat) : Int) _ (by simp [Act.eval]) (by simp [Act.eval]) (Cha.Blk.cell64 hW.ba ql (by rw [Lb.out]; exact HBl.out.2.1)) (hW.ba.frozen ql)) ?_
                  simp only [PS]
                  have H3 := hW.set_ hy ql (Cha.at64 b ql + shl64 1 El)
                  rw [Hb2.out] at H3
                  clear hW H2
                  have Lb2 := hd HAd.out.1
                  have hX : Cha.dval b2 * Cha.dval r < 2 ^ 260 := by rw [HAd.out.2.1, Hrd.out.1]; exact Cha.Eqv.mul key t HK.out v HN0.out.2
                  have Hpr := hd (Rc.product_any b2 r Lb2.out Lr.out HAd.out.2.2 Hrd.out.2 hX)
                  clear hX
                  obtain ⟨W4, HW4⟩ : ∃ x, Hd (W.setCell ⟨y, ql, none⟩ (.int .u64 ((n64 (Cha.at64 b ql + shl64 1 El) : Nat) : Int)) = x) := ⟨_, ⟨rfl⟩⟩
                  rw [HW4.out] at H3 ⊢
                  go_wp2_with (first
                    | (refine wpl_load rfl 137 _ rfl ⟨y, 0, none⟩ rfl 9 Cha.agg9 (b2.map Cha.V64) (by rw [List.length_map, Lb2.out]) H3.ba.cells ?_)
                    | (refine wpl_load rfl 136 _ rfl ⟨w.heap.size + 1 + 1, 0, none⟩ rfl 8 Cha.agg8 (r.map Cha.V64) (by rw [List.length_map, Lr.out]) H3.p1.br.cells ?_)
                    | (go_at_call 80; refine (Hpr.out W4).mono ?_; rintro e W5 ⟨a2, rfl, hn2, hE⟩; rw [HAd.out.2.1, Hrd.out.1] at hn2; have H5 := H3.next hE; have HN2 := hd hn2; have La2 := hd hn2.len; clear hn2)
                    | (refine wpl_store rfl 137 _ _ rfl y 0 (a2.map Cha.V64) rfl rfl 137 _ H5.ba (by rw [List.length_map, La2.out]; kernel_rfl) (by rw [List.length_map, La2.out, Cha.row64_size, Lb2.out]; decide) (by simp [Cha.V64, Value.oneCell']) ?_; rw [splice_all _ _ (by rw [List.length_map, La2.out, Cha.row64_size, Lb2.out])]; refine wpl_name (Rc.P2 w key r y a2) (H5.put hy a2) ?_; clear H5 H3; intro W6 H6))
                  go_roundw
                  case rel => exact ⟨F + 16, _, a2, p2, by have := Hsm.out; omega, by go_num, HN2, HQ2, H6⟩
                  case measure => have := Hsm.out; simp [intOf]; omega
            · have HLn := hd (show nr ≤ nr by omega)
              have HLm := hd (show min t.length 16 = nr by rw [Ltt.out]; omega)
              have HN0 := hd (show Cha.Nine a v ∧ v < 2 ^ 131 from ⟨HN.out, HV.out⟩)
              go_wp2
              go_loopw [10] (fun j wr => ∃ (i : Nat) (b : List UInt64), i ≤ nr ∧ j = .int .i64 ((i : Nat) : Int) ∧ Hd (Cha.AInv v t i b) ∧ Rc.P2 w key r y b wr) (fun j _ => 16 - (intOf j).toNat)
              case atStart => exact ⟨0, a, by omega, rfl, hd (Cha.AInv.start HN.out t), H1⟩
              case round =>
                clear H1
                obtain ⟨i, b, hi, rfl, HA, H2⟩ := hrel
                have Lb := hd HA.out.len
                have HL16 := hd (show nr ≤ 16 by omega)
                by_cases hlt : i < nr
                · have ti : (i : Int) < 16 := by have := HL16.out; omega
                  obtain ⟨G, HG⟩ : ∃ x, Hd (F + i = x) := ⟨_, ⟨rfl⟩⟩
                  have HGn := hd (show G < n ∧ G ≤ 140737488355328 by have := HG.out; have := Hsm.out; have := HLn.out; omega)
                  have eG : (F : Int) + (i : Int) = (G : Int) := by have := HG.out; omega
                  have wG : IntKind.i64.wrap (G : Int) = (G : Int) := IntWalk.i64_in _ (by have := HGn.out; omega)
                  have tG : (G : Int) < (n : Int) := by have := HGn.out; omega
                  have hst := HA.out.step (by omega)
                  obtain ⟨bt, Hbt0⟩ : ∃ x, Hd (nth t i = x) := ⟨_, ⟨rfl⟩⟩
                  have Hbt := hd (show nth text G = bt by rw [← Hbt0.out, ← Ht2.out, ← HG.out]; unfold nth; rw [List.getD_eq_getElem?_getD, List.getD_eq_getElem?_getD, List.getElem?_drop])
                  obtain ⟨q, Hq⟩ : ∃ x, Hd (i / 2 = x) := ⟨_, ⟨rfl⟩⟩
                  obtain ⟨m, Hm⟩ : ∃ x, Hd (i % 2 = x) := ⟨_, ⟨rfl⟩⟩
                  obtain ⟨E, HE⟩ : ∃ x, Hd (8 * m = x) := ⟨_, ⟨rfl⟩⟩
                  have HB := hd (show i < 16 ∧ q < 9 ∧ m < 2 ∧ E ≤ 8 by have := Hq.out; have := Hm.out; have := HE.out; have := HL16.out; omega)
                  rw [Hbt0.out, Hq.out, Hm.out, HE.out] at hst
                  have HA2 := hd hst
                  clear hst
                  go_wp2
                  refine x_start 19 (Rc.P2 w key r y b) (by kernel_rfl) (H2.next (Below.refl _ _).drew) ?_
                  refine Reg.xt (v := .int .i64 ((i : Nat) : Int)) 0 (fun W hW => run_move (by rfl) (by simp [Act.eval]) W) (by kernel_rfl) rfl rfl (fun _ _ _ h => h) ?_
                  simp only [PS]
                  refine Reg.xt 1 (fun W hW => Reg.quoN (by rfl) i 2 q (by decide) Hq.out (by have := HB.out; omega) (by simp [Act.eval]) (by simp [Act.eval])) (by kernel_rfl) rfl rfl (fun _ _ _ h => h) ?_
                  simp only [PS]
                  refine Reg.xt (v := .int .i64 ((i : Nat) : Int)) 2 (fun W hW => run_move (by rfl) (by simp [Act.eval]) W) (by kernel_rfl) rfl rfl (fun _ _ _ h => h) ?_
                  simp only [PS]
                  refine Reg.xt 3 (fun W hW => Reg.quoN (by rfl) i 2 q (by decide) Hq.out (by have := HB.out; omega) (by simp [Act.eval]) (by simp [Act.eval])) (by kernel_rfl) rfl rfl (fun _ _ _ h => h) ?_
                  simp only [PS]
                  refine Reg.xt 4 (fun W hW => Reg.idx (by rfl) Try.underlying137 Reg.sz64 (y) (q) (by simp [Act.eval]) (by simp [Act.eval]) HB.out.2.1) (by kernel_rfl) rfl rfl (fun _ _ _ h => h) ?_
                  simp only [PS]
                  refine Reg.xt (v := .int .u64 ((n64 (Cha.at64 b q) : Nat) : Int)) 5 (fun W hW => Reg.ld Reg.na64 (by rfl) ⟨y, q, none⟩ _ (by simp [Act.eval]) (Cha.Blk.cell64 hW.ba q (by rw [Lb.out]; exact HB.out.2.1))) (by kernel_rfl) rfl rfl (fun _ _ _ h => h) ?_
                  simp only [PS]
                  refine Reg.xt (v := .slice (some ad) n d) 6 (fun W hW => run_move (by rfl) (by simp [Act.eval]) W) (by kernel_rfl) rfl rfl (fun _ _ _ h => h) ?_
                  simp only [PS]
                  refine Reg.xt (v := .int .i64 ((F : Nat) : Int)) 7 (fun W hW => run_move (by rfl) (by simp [Act.eval]) W) (by kernel_rfl) rfl rfl (fun _ _ _ h => h) ?_
                  simp only [PS]
                  refine Reg.xt (v := .int .i64 ((i : Nat) : Int)) 8 (fun W hW => run_move (by rfl) (by simp [Act.eval]) W) (by kernel_rfl) rfl rfl (fun _ _ _ h => h) ?_
                  simp only [PS]
                  refine Reg.xt 9 (fun W hW => Rc.addBig (by rfl) F i G HG.out HGn.out.2 (by simp [Act.eval]) (by simp [Act.eval])) (by kernel_rfl) rfl rfl (fun _ _ _ h => h) ?_
                  simp only [PS]
                  refine Reg.xt 10 (fun W hW => Reg.idxS (by rfl) Try.underlying24 Reg.sz8 ad n d G (by simp [Act.eval]) (by simp [Act.eval]) HGn.out.1) (by kernel_rfl) rfl rfl (fun _ _ _ h => h) ?_
                  simp only [PS]
                  refine Reg.xt (v := .int .u8 ((n8 (bt) : Nat) : Int)) 11 (fun W hW => Reg.ld Reg.na8 (by rfl) (ad.add G) _ (by simp [Act.eval]) (Rc.text_cell Hr.out hW.p1.old HGn.out.1 Hbt.out)) (by kernel_rfl) rfl rfl (fun _ _ _ h => h) ?_
                  simp only [PS]
                  refine Reg.xt (v := .int .u64 ((n64 (bt.toUInt64) : Nat) : Int)) 12 (fun W hW => Reg.conv8 (by rfl) _ (by simp [Act.eval])) (by kernel_rfl) rfl rfl (fun _ _ _ h => h) ?_
                  simp only [PS]
                  refine Reg.xt (v := .int .i64 ((i : Nat) : Int)) 13 (fun W hW => run_move (by rfl) (by simp [Act.eval]) W) (by kernel_rfl) rfl rfl (fun _ _ _ h => h) ?_
                  simp only [PS]
                  refine Reg.xt 14 (fun W hW => Rc.remN (by rfl) i 2 m (by decide) Hm.out (by simp [Act.eval]) (by simp [Act.eval])) (by kernel_rfl) rfl rfl (fun _ _ _ h => h) ?_
                  simp only [PS]
                  refine Reg.xt 15 (fun W hW => Rc.mulN (by rfl) 8 m E HE.out (by have := HB.out; omega) (by simp [Act.eval]) (by simp [Act.eval])) (by kernel_rfl) rfl rfl (fun _ _ _ h => h) ?_
                  simp only [PS]
                  refine Reg.xt (v := .int .u64 ((n64 (shl64 bt.toUInt64 E) : Nat) : Int)) 16 (fun W hW => Reg.shlV (by rfl) _ E (by simp [Act.eval]) (by simp [Act.eval])) (by kernel_rfl) rfl rfl (fun _ _ _ h => h) ?_
                  simp only [PS]
                  refine Reg.xt (v := .int .u64 ((n64 (Cha.at64 b q + shl64 bt.toUInt64 E) : Nat) : Int)) 17 (fun W hW => Reg.add64 (by rfl) _ _ (by simp [Act.eval]) (by simp [Act.eval])) (by kernel_rfl) rfl rfl (fun _ _ _ h => h) ?_
                  simp only [PS]
                  refine Reg.xt 18 (fun W hW => Reg.idx (by rfl) Try.underlying137 Reg.sz64 (y) (q) (by simp [Act.eval]) (by simp [Act.eval]) HB.out.2.1) (by kernel_rfl) rfl rfl (fun _ _ _ h => h) ?_
                  simp only [PS]
                  refine x_last (by kernel_rfl) (by kernel_rfl) (fun W hW _ => ?_) _
                  refine op_skip (o := _) rfl (wanted_plain rfl) _ (Reg.st_ Reg.na64 Reg.sz64 (by rfl) ⟨y, q, none⟩ .u64 ((n64 (Cha.at64 b q + shl64 bt.toUInt64 E) : Nat) : Int) _ (by simp [Act.eval]) (by simp [Act.eval]) (Cha.Blk.cell64 hW.ba q (by rw [Lb.out]; exact HB.out.2.1)) (hW.ba.frozen q)) ?_
                  simp only [PS]
                  have H3 := hW.set_ hy q (Cha.at64 b q + shl64 bt.toUInt64 E)
                  clear hW H2
                  go_wp2
                  go_roundw
                  case rel => exact ⟨i + 1, _, by omega, by go_num, HA2, H3⟩
                  case measure => have := HB.out; simp [intOf]; omega
                · have ei : i = nr := by omega
                  have ei2 := hd ei
                  clear ei
                  rw [ei2.out] at HA ⊢
                  clear ei2 hlt hi
                  have te : (nr : Int) < 16 := by omega
                  have eG : (F : Int) + (nr : Int) = (n : Int) := by have := Hsm.out; omega
                  have wG : IntKind.i64.wrap (n : Int) = (n : Int) := IntWalk.i64_in _ (by have := Hsm.out; omega)
                  have hAd := Cha.AInv.done (v := v) (t := t) (a := b) (by rw [HLm.out]; exact HA.out)
                  rw [HLm.out] at hAd
                  obtain ⟨ql, Hql⟩ : ∃ x, Hd (nr / 2 = x) := ⟨_, ⟨rfl⟩⟩
                  obtain ⟨ml, Hml⟩ : ∃ x, Hd (nr % 2 = x) := ⟨_, ⟨rfl⟩⟩
                  obtain ⟨El, HEl⟩ : ∃ x, Hd (8 * ml = x) := ⟨_, ⟨rfl⟩⟩
                  have HBl := hd (show nr ≤ 16 ∧ ql < 9 ∧ ml < 2 ∧ El ≤ 8 by have := Hql.out; have := Hml.out; have := HEl.out; have := HL16.out; omega)
                  rw [Hql.out, Hml.out, HEl.out] at hAd
                  obtain ⟨b2, Hb2⟩ : ∃ x, Hd (b.set ql (Cha.at64 b ql + shl64 1 El) = x) := ⟨_, ⟨rfl⟩⟩
                  rw [Hb2.out] at hAd
                  have HAd := hd hAd
                  clear hAd HA
                  have wn : (n : Int) - (F : Int) = (nr : Int) := by have := Hsm.out; omega
                  have wn2 : IntKind.i64.wrap (nr : Int) = (nr : Int) := IntWalk.i64_in _ (by have := Hsm.out; omega)
                  have tn : ¬ (16 : Int) < (nr : Int) := by omega
                  clear h16 h15
                  go_wp2
                  refine x_start 12 (Rc.P2 w key r y b) (by kernel_rfl) (H2.next (Below.refl _ _).drew) ?_
                  refine Reg.xt (v := .int .i64 ((nr : Nat) : Int)) 0 (fun W hW => run_move (by rfl) (by simp [Act.eval]) W) (by kernel_rfl) rfl rfl (fun _ _ _ h => h) ?_
                  simp only [PS]
                  refine Reg.xt 1 (fun W hW => Reg.quoN (by rfl) nr 2 ql (by decide) Hql.out (by have := HBl.out; omega) (by simp [Act.eval]) (by simp [Act.eval])) (by kernel_rfl) rfl rfl (fun _ _ _ h => h) ?_
                  simp only [PS]
                  refine Reg.xt (v := .int .i64 ((nr : Nat) : Int)) 2 (fun W hW => run_move (by rfl) (by simp [Act.eval]) W) (by kernel_rfl) rfl rfl (fun _ _ _ h => h) ?_
                  simp only [PS]
                  refine Reg.xt 3 (fun W hW => Reg.quoN (by rfl) nr 2 ql (by decide) Hql.out (by have := HBl.out; omega) (by simp [Act.eval]) (by simp [Act.eval])) (by kernel_rfl) rfl rfl (fun _ _ _ h => h) ?_
                  simp only [PS]
                  refine Reg.xt 4 (fun W hW => Reg.idx (by rfl) Try.underlying137 Reg.sz64 (y) (ql) (by simp [Act.eval]) (by simp [Act.eval]) HBl.out.2.1) (by kernel_rfl) rfl rfl (fun _ _ _ h => h) ?_
                  simp only [PS]
                  refine Reg.xt (v := .int .u64 ((n64 (Cha.at64 b ql) : Nat) : Int)) 5 (fun W hW => Reg.ld Reg.na64 (by rfl) ⟨y, ql, none⟩ _ (by simp [Act.eval]) (Cha.Blk.cell64 hW.ba ql (by rw [Lb.out]; exact HBl.out.2.1))) (by kernel_rfl) rfl rfl (fun _ _ _ h => h) ?_
                  simp only [PS]
                  refine Reg.xt (v := .int .i64 ((nr : Nat) : Int)) 6 (fun W hW => run_move (by rfl) (by simp [Act.eval]) W) (by kernel_rfl) rfl rfl (fun _ _ _ h => h) ?_
                  simp only [PS]
                  refine Reg.xt 7 (fun W hW => Rc.remN (by rfl) nr 2 ml (by decide) Hml.out (by simp [Act.eval]) (by simp [Act.eval])) (by kernel_rfl) rfl rfl (fun _ _ _ h => h) ?_
                  simp only [PS]
                  refine Reg.xt 8 (fun W hW => Rc.mulN (by rfl) 8 ml El HEl.out (by have := HBl.out; omega) (by simp [Act.eval]) (by simp [Act.eval])) (by kernel_rfl) rfl rfl (fun _ _ _ h => h) ?_
                  simp only [PS]
                  refine Reg.xt (v := .int .u64 ((n64 (shl64 1 El) : Nat) : Int)) 9 (fun W hW => Reg.shlOne (by rfl) El (by simp [Act.eval]) (by simp [Act.eval])) (by kernel_rfl) rfl rfl (fun _ _ _ h => h) ?_
                  simp only [PS]
                  refine Reg.xt (v := .int .u64 ((n64 (Cha.at64 b ql + shl64 1 El) : Nat) : Int)) 10 (fun W hW => Reg.add64 (by rfl) _ _ (by simp [Act.eval]) (by simp [Act.eval])) (by kernel_rfl) rfl rfl (fun _ _ _ h => h) ?_
                  simp only [PS]
                  refine Reg.xt 11 (fun W hW => Reg.idx (by rfl) Try.underlying137 Reg.sz64 (y) (ql) (by simp [Act.eval]) (by simp [Act.eval]) HBl.out.2.1) (by kernel_rfl) rfl rfl (fun _ _ _ h => h) ?_
                  simp only [PS]
                  refine x_last (by kernel_rfl) (by kernel_rfl) (fun W hW _ => ?_) _
                  refine op_skip (o := _) rfl (wanted_plain rfl) _ (Reg.st_ Reg.na64 Reg.sz64 (by rfl) ⟨y, ql, none⟩ .u64 ((n64 (Cha.at64 b ql + shl64 1 El) : Nat) : Int) _ (by simp [Act.eval]) (by simp [Act.eval]) (Cha.Blk.cell64 hW.ba ql (by rw [Lb.out]; exact HBl.out.2.1)) (hW.ba.frozen ql)) ?_
                  simp only [PS]
                  have H3 := hW.set_ hy ql (Cha.at64 b ql + shl64 1 El)
                  rw [Hb2.out] at H3
                  clear hW H2
                  have Lb2 := hd HAd.out.1
                  have hX : Cha.dval b2 * Cha.dval r < 2 ^ 260 := by rw [HAd.out.2.1, Hrd.out.1]; exact Cha.Eqv.mul key t HK.out v HN0.out.2
                  have Hpr := hd (Rc.product_any b2 r Lb2.out Lr.out HAd.out.2.2 Hrd.out.2 hX)
                  clear hX
                  obtain ⟨W4, HW4⟩ : ∃ x, Hd (W.setCell ⟨y, ql, none⟩ (.int .u64 ((n64 (Cha.at64 b ql + shl64 1 El) : Nat) : Int)) = x) := ⟨_, ⟨rfl⟩⟩
                  rw [HW4.out] at H3 ⊢
                  go_wp2_with (first
                    | (refine wpl_load rfl 137 _ rfl ⟨y, 0, none⟩ rfl 9 Cha.agg9 (b2.map Cha.V64) (by rw [List.length_map, Lb2.out]) H3.ba.cells ?_)
                    | (refine wpl_load rfl 136 _ rfl ⟨w.heap.size + 1 + 1, 0, none⟩ rfl 8 Cha.agg8 (r.map Cha.V64) (by rw [List.length_map, Lr.out]) H3.p1.br.cells ?_)
                    | (go_at_call 80; refine (Hpr.out W4).mono ?_; rintro e W5 ⟨a2, rfl, hn2, hE⟩; rw [HAd.out.2.1, Hrd.out.1] at hn2; have H5 := H3.next hE; have HN2 := hd hn2; have La2 := hd hn2.len; clear hn2)
                    | (refine wpl_store rfl 137 _ _ rfl y 0 (a2.map Cha.V64) rfl rfl 137 _ H5.ba (by rw [List.length_map, La2.out]; kernel_rfl) (by rw [List.length_map, La2.out, Cha.row64_size, Lb2.out]; decide) (by simp [Cha.V64, Value.oneCell']) ?_; rw [splice_all _ _ (by rw [List.length_map, La2.out, Cha.row64_size, Lb2.out])]; refine wpl_name (Rc.P2 w key r y a2) (H5.put hy a2) ?_; clear H5 H3; intro W6 H6))
                  go_roundw
                  case rel => exact ⟨F + 16, _, a2, p2, by have := Hsm.out; omega, by go_num, HN2, HQ2, H6⟩
                  case measure => have := Hsm.out; simp [intOf]; omega
        · have tF : ¬ (F : Int) < (n : Int) := by omega
          have Hpn := hd (fun i hi => HQ.out.done HK.out (by rw [Ht.out]; omega) i hi)
          obtain ⟨A, HA⟩ : ∃ x, Hd (v % Cha.Q = x) := ⟨_, ⟨rfl⟩⟩
          obtain ⟨S, HS⟩ : ∃ x, Hd (Cha.leb (key.drop 16) = x) := ⟨_, ⟨rfl⟩⟩
          rw [HA.out, HS.out, Hpl.out] at Hpn
          have Hen := hd (Rc.ended_any a v HN.out HQ.out.lt)
          have La := hd HN.out.len
          clear HN HQ
          go_wp2_with (first
            | (refine wpl_load rfl 137 _ rfl ⟨y, 0, none⟩ rfl 9 Cha.agg9 (a.map Cha.V64) (by rw [List.length_map, La.out]) H1.ba.cells ?_)
            | (go_at_call 81; refine (Hen.out wr).mono ?_; rintro e W5 ⟨a2, rfl, hn2, hE⟩; rw [HA.out] at hn2; have H5 := H1.next hE; have HN2 := hd hn2; have La2 := hd hn2.len; clear hn2)
            | (refine wpl_store rfl 137 _ _ rfl y 0 (a2.map Cha.V64) rfl rfl 137 _ H5.ba (by rw [List.length_map, La2.out]; kernel_rfl) (by rw [List.length_map, La2.out, Cha.row64_size, La.out]; decide) (by simp [Cha.V64, Value.oneCell']) ?_; rw [splice_all _ _ (by rw [List.length_map, La2.out, Cha.row64_size, La.out])]; refine wpl_name (Rc.P2 w key r y a2) (H5.put hy a2) ?_; clear H5 H1; intro W6 H6; obtain ⟨z, Hz⟩ : ∃ z, Hd (W6.heap.size = z) := ⟨_, ⟨rfl⟩⟩; have hz := H6.ba.lt; rw [Hz.out] at hz)
            | (refine wpl_alloc rfl 104 rfl _ Rc.zero16 ?_; rw [Hz.out]; refine wpl_name (fun W => Rc.P2 w key r y a2 W ∧ Blk W z 104 (arr (List.replicate 16 0))) ⟨H6.next ((Below.refl _ _).alloc (Nat.le_refl _) _), Blk.nu Hz.out.symm⟩ ?_; clear H6; rintro W7 ⟨H7, bz⟩))
          go_loopw [13, 14] (fun c i wr => ∃ (m : Nat) (cc : UInt64), m ≤ 16 ∧ i = .int .i64 ((m : Nat) : Int) ∧ c = .int .u64 ((n64 (cc) : Nat) : Int) ∧ Hd (cc.toNat = Cha.carryN A S m) ∧ Rc.P2 w key r y a2 wr ∧ Blk wr z 104 (arr (Cha.outF pl m))) (fun _ i _ => 16 - (intOf i).toNat)
          case atStart => exact ⟨0, 0, by omega, rfl, rfl, hd (by unfold Cha.carryN; simp [Nat.mod_one]), H7, by rw [Cha.outF_none]; exact bz⟩
          case round =>
            clear H7 bz
            obtain ⟨i, cc, hi, rfl, rfl, Hcc, H1, bz⟩ := hrel
            by_cases hlt : i < 16
            · have ti : (i : Int) < 16 := by omega
              obtain ⟨q, Hq⟩ : ∃ x, Hd (i / 2 = x) := ⟨_, ⟨rfl⟩⟩
              obtain ⟨m, Hm⟩ : ∃ x, Hd (i % 2 = x) := ⟨_, ⟨rfl⟩⟩
              obtain ⟨E, HE⟩ : ∃ x, Hd (8 * m = x) := ⟨_, ⟨rfl⟩⟩
              obtain ⟨G, HG⟩ : ∃ x, Hd (16 + i = x) := ⟨_, ⟨rfl⟩⟩
              have HB := hd (show i < 16 ∧ q < 9 ∧ m < 2 ∧ E ≤ 8 ∧ G < 32 by have := Hq.out; have := Hm.out; have := HE.out; have := HG.out; omega)
              obtain ⟨x, Hx⟩ : ∃ x, Hd ((shr64 (Cha.at64 a2 q) E &&& 255) + (nth key G).toUInt64 + cc = x) := ⟨_, ⟨rfl⟩⟩
              have hbs := Cha.byte_step HN2.out key i hlt cc (by rw [HS.out]; exact Hcc.out)
              rw [Hq.out, Hm.out, HE.out, HG.out, HS.out, Hx.out] at hbs
              have hbd := Cha.byte_done x (nth pl i) hbs (Hpn.out i hlt)
              have Hx8 := hd hbd.1
              have Hcn := hd hbd.2
              clear hbs hbd
              have bnx := bz.arr_set i (nth pl i)
              rw [Cha.outF_next] at bnx
              have c3 := bz.arr_cell i (by rw [Cha.outF_len]; exact hlt)
              have f3 := bz.frozen i
              go_wp2
              refine wp_region_quiet_lit (by kernel_rfl) (by kernel_rfl) ?_
              refine Reg.xq (v := .int .i64 ((i : Nat) : Int)) (fun n => run_move (by rfl) (by simp [Act.eval]) _) rfl ?_
              simp only [PS]
              refine Reg.xq (v := .int .i64 ((q : Nat) : Int)) (fun n => Reg.quoN (by rfl) i 2 q (by decide) Hq.out (by have := HB.out; omega) (by simp [Act.eval]) (by simp [Act.eval])) rfl ?_
              simp only [PS]
              refine Reg.xq (v := .pointer (some ⟨y, q, none⟩)) (fun n => Reg.idx (by rfl) Try.underlying137 Reg.sz64 y q (by simp [Act.eval]) (by simp [Act.eval]) HB.out.2.1) rfl ?_
              simp only [PS]
              refine Reg.xq (v := .int .u64 ((n64 (Cha.at64 a2 q) : Nat) : Int)) (fun n => Reg.ld Reg.na64 (by rfl) ⟨y, q, none⟩ _ (by simp [Act.eval]) (Cha.Blk.cell64 H1.ba q (by have := HN2.out.len; rw [this]; exact HB.out.2.1))) rfl ?_
              simp only [PS]
              refine Reg.xq (v := .int .i64 ((i : Nat) : Int)) (fun n => run_move (by rfl) (by simp [Act.eval]) _) rfl ?_
              simp only [PS]
              refine Reg.xq (v := .int .i64 ((m : Nat) : Int)) (fun n => Rc.remN (by rfl) i 2 m (by decide) Hm.out (by simp [Act.eval]) (by simp [Act.eval])) rfl ?_
              simp only [PS]
              refine Reg.xq (v := .int .i64 ((E : Nat) : Int)) (fun n => Rc.mulN (by rfl) 8 m E HE.out (by have := HB.out; omega) (by simp [Act.eval]) (by simp [Act.eval])) rfl ?_
              simp only [PS]
              refine Reg.xq (v := .int .u64 ((n64 (shr64 (Cha.at64 a2 q) E) : Nat) : Int)) (fun n => Reg.shrV (by rfl) _ E (by simp [Act.eval]) (by simp [Act.eval])) rfl ?_
              simp only [PS]
              refine Reg.xq (v := .int .u64 ((n64 (shr64 (Cha.at64 a2 q) E &&& 255) : Nat) : Int)) (fun n => Reg.and255 (by rfl) _ (by simp [Act.eval]) (by simp [Act.eval])) rfl ?_
              simp only [PS]
              refine Reg.xq (v := .int .i64 ((i : Nat) : Int)) (fun n => run_move (by rfl) (by simp [Act.eval]) _) rfl ?_
              simp only [PS]
              refine Reg.xq (v := .int .i64 ((G : Nat) : Int)) (fun n => Reg.addN (by rfl) 16 i G HG.out (by have := HB.out; omega) (by simp [Act.eval]) (by simp [Act.eval])) rfl ?_
              simp only [PS]
              refine Reg.xq (v := .pointer (some ⟨w.heap.size, G, none⟩)) (fun n => Reg.idx (by rfl) Try.underlying68 Reg.sz8 (w.heap.size) G (by simp [Act.eval]) (by simp [Act.eval]) HB.out.2.2.2.2) rfl ?_
              simp only [PS]
              refine Reg.xq (v := .int .u8 ((n8 (nth key G) : Nat) : Int)) (fun n => Reg.ld Reg.na8 (by rfl) ⟨w.heap.size, G, none⟩ _ (by simp [Act.eval]) (H1.p1.bk.arr_cell G (by rw [HK.out]; exact HB.out.2.2.2.2))) rfl ?_
              simp only [PS]
              refine Reg.xq (v := .int .u64 ((n64 ((nth key G).toUInt64) : Nat) : Int)) (fun n => Reg.conv8 (by rfl) _ (by simp [Act.eval])) rfl ?_
              simp only [PS]
              refine Reg.xq (v := .int .u64 ((n64 ((shr64 (Cha.at64 a2 q) E &&& 255) + (nth key G).toUInt64) : Nat) : Int)) (fun n => Reg.add64 (by rfl) _ _ (by simp [Act.eval]) (by simp [Act.eval])) rfl ?_
              simp only [PS]
              refine Reg.xq (v := .int .u64 ((n64 (cc) : Nat) : Int)) (fun n => run_move (by rfl) (by simp [Act.eval]) _) rfl ?_
              simp only [PS]
              refine Reg.xq (v := .int .u64 ((n64 (x) : Nat) : Int)) (fun n => by rw [← Hx.out]; exact Reg.add64 (by rfl) _ _ (by simp [Act.eval]) (by simp [Act.eval])) rfl ?_
              simp only [PS]
              refine Reg.xq (v := .int .u64 ((n64 (x) : Nat) : Int)) (fun n => Rc.run_assign (by rfl) (by simp [Act.eval])) rfl ?_
              simp only [PS]
              refine wpQuiet_nil ?_
              intro _ hw'
              obtain ⟨nq, hw2⟩ := hw'
              subst hw2
              go_wp2
              go_roundw
              case rel => exact ⟨i + 1, x >>> 8, by omega, by go_num, rfl, Hcn, (by have h9 := H1.next (below_drewN (Below.refl _ _) nq); exact ⟨h9.p1.far (by omega) _ _, h9.ba.far (by simp only []; omega) _⟩), by rw [Hx8.out, ← Cha.outF_next]; exact (bz.drewN nq).arr_set i _⟩
              case measure => simp [intOf]; omega
            · have ei : i = 16 := by omega
              subst ei
              have ti : ¬ ((16 : Nat) : Int) < 16 := by omega
              rw [Cha.outF_all pl Lpl.out] at bz
              go_wp2_with (first | (refine wpl_load_arr rfl 104 _ rfl _ rfl 16 Rc.agg16 pl Lpl.out bz.cells_arr ?_) | (refine wpl_store_arr rfl 104 _ _ rfl (w.heap.size + 1) pl rfl rfl 104 _ H1.p1.bo 16 Rc.agg16.size Lpl.out (by rw [arr_size, List.length_replicate]) ?_))
              exact ret_arr rfl (w.heap.size + 1) rfl Rc.agg16 pl Lpl.out (H1.p1.bo.setRow _).cells_arr rfl ⟨rfl, below_setRow H1.p1.old (by omega) _⟩
end Go.Proofs.Ytbcboldepghgpaa
