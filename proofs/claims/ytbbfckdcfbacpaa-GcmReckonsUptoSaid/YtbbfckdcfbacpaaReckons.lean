/-
  The walk of the statement GcmReckons.
-/
import Derived.Test.YtbbfckdcfbacpaaField
import Derived.Test.YtbbfckdcfbacpaaRefGh
set_option linter.unusedVariables false
set_option linter.unusedSimpArgs false
namespace Go.Proofs.Ytbbfckdcfbacpaa
open Go.RowKit
theorem enter_rmul (args : Array Value) (w : World) : (callFunc 23 args).run Try.prog w = .ok (.enter 23 args) w := by kernel_rfl
theorem enter_hash (args : Array Value) (w : World) : (callFunc 21 args).run Try.prog w = .ok (.enter 21 args) w := by kernel_rfl
theorem enter_rhash (args : Array Value) (w : World) : (callFunc 24 args).run Try.prog w = .ok (.enter 24 args) w := by kernel_rfl
/-- Blocks of sixteen bytes each, and two slices that came in. -/
structure RkS (w : World) (bs : List (Nat × List UInt8)) (A : Option Addr) (n : Nat) (aside : List UInt8) (D : Option Addr) (m : Nat) (text : List UInt8) (W : World) : Prop where
  env : Env w bs W
  ra : ReadsB W W.heap.size A n aside
  rt : ReadsB W W.heap.size D m text
theorem RkS.next {w : World} {bs : List (Nat × List UInt8)} {A : Option Addr} {n : Nat} {aside : List UInt8} {D : Option Addr} {m : Nat} {text : List UInt8} {W w' : World} (h : RkS w bs A n aside D m text W) (hb : Below W.heap.size W w') : RkS w bs A n aside D m text w' :=
  ⟨h.env.next hb, h.ra.onward hb, h.rt.onward hb⟩
theorem RkS.call {w : World} {bs : List (Nat × List UInt8)} {A : Option Addr} {n : Nat} {aside : List UInt8} {D : Option Addr} {m : Nat} {text : List UInt8} {W : World} {P : Program} {f : FuncId} {args : Array Value} {v : Value} (h : RkS w bs A n aside D m text W) (hc : Calls P f args W fun e w' => e = .returned v ∧ Below W.heap.size W w') :
    Calls P f args W fun e w' => e = .returned v ∧ RkS w bs A n aside D m text w' := hc.mono fun _ _ ⟨he, hb⟩ => ⟨he, h.next hb⟩
set_option maxHeartbeats 8000000 in
set_option maxRecDepth 100000 in
theorem reckons_all (a b : List UInt8) (A : Option Addr) (n c : Nat) (aside : List UInt8) (D : Option Addr) (m d : Nat) (text : List UInt8) (w : World) (ha : a.length = 16) (hb : b.length = 16) (hra : ReadsB w w.heap.size A n aside) (hnc : n ≤ c) (hn : c ≤ 1048576) (hrt : ReadsB w w.heap.size D m text) (hmd : m ≤ d) (hm : d ≤ 1048576) :
    Calls Try.prog 8 #[.agg (arr a), .agg (arr b), .slice A n c, .slice D m d] w fun e w' => e = .returned (.bool true) ∧ Below w.heap.size w w' := by
  have Ha := hd ha
  have Hb := hd hb
  clear ha hb
  have hnm : n + m ≤ 140737488000000 := by omega
  obtain ⟨p, Hp⟩ : ∃ x, Hd (Gcm.mul a b = x) := ⟨_, ⟨rfl⟩⟩
  have Hpl := hd (show p.length = 16 by rw [← Hp.out]; exact Gcm.mul_len _ _)
  obtain ⟨q, Hq⟩ : ∃ x, Hd (Gcm.hash a aside text = x) := ⟨_, ⟨rfl⟩⟩
  have Hql := hd (show q.length = 16 by rw [← Hq.out]; exact Gcm.hash_len _ _ _)
  have hB0 := ((Below.refl w.heap.size w).alloc (by simp) (.cells (arr a) 32)).alloc (by simp) (.cells (arr b) 32)
  go_enter Try.func8, Try.ntmps8
  go_wp2_with fail
  refine (head8_any _).mono ?_
  rintro e w1 ⟨rfl, hB1⟩
  have hB1' := hB0.trans (hB1.mono hB0.size)
  have hE : RkS w [(w.heap.size, a), (w.heap.size + 1, b)] A n aside D m text w1 := by
    refine ⟨⟨fun p hp => ?_, hB1'⟩, hra.onward hB1', hrt.onward hB1'⟩
    rcases List.mem_cons.1 hp with rfl | hp
    · exact ((Blk.nu rfl).alloc _).below hB1 (by simp; omega)
    rcases List.mem_cons.1 hp with rfl | hp
    · exact (Blk.nu (by simp)).below hB1 (by simp)
    cases hp
  clear hB0 hB1 hB1' hra hrt
  go_wp2_with fail
  refine u_start (S := fun _ => RkS w [(w.heap.size, a), (w.heap.size + 1, b)] A n aside D m text) 99 (by kernel_rfl) (hE.next (Below.refl _ _).drew) ?_
  refine u_take 0 rfl (o := _) rfl (by kernel_rfl) (by kernel_rfl) (by kernel_rfl) (.bool true) (fun _ _ _ h => h) (g_value rfl (wanted_plain rfl) (fun f W hW => run_move (by rfl) (by simp [Act.eval]) W)) ?_
  simp only [Act.put, List.getElem_toArray, List.getElem_cons_succ, List.getElem_cons_zero, List.setIfInBounds_toArray, List.set_cons_zero, List.set_cons_succ]
  refine u_take 1 rfl (o := _) rfl (by kernel_rfl) (by kernel_rfl) (by kernel_rfl) (.bool true) (fun _ _ _ h => h) (g_value rfl (wanted_plain rfl) (fun f W hW => run_move (by rfl) (by simp [Act.eval]) W)) ?_
  simp only [Act.put, List.getElem_toArray, List.getElem_cons_succ, List.getElem_cons_zero, List.setIfInBounds_toArray, List.set_cons_zero, List.set_cons_succ]
  refine u_take 2 rfl (o := _) rfl (by kernel_rfl) (by kernel_rfl) (by kernel_rfl) (.agg (arr a)) (fun _ _ _ h => h) (g_value rfl (by simp [Region.wanted, yielded]) (fun f W hW => run_load_arr (by rfl) (by simp [Act.eval]) ty16 a Ha.out (hW.env.at_ (w.heap.size, a) (by simp)).cells_arr)) ?_
  simp only [Act.put, List.getElem_toArray, List.getElem_cons_succ, List.getElem_cons_zero, List.setIfInBounds_toArray, List.set_cons_zero, List.set_cons_succ]
  refine u_take 3 rfl (o := _) rfl (by kernel_rfl) (by kernel_rfl) (by kernel_rfl) (.agg (arr b)) (fun _ _ _ h => h) (g_value rfl (by simp [Region.wanted, yielded]) (fun f W hW => run_load_arr (by rfl) (by simp [Act.eval]) ty16 b Hb.out (hW.env.at_ (w.heap.size + 1, b) (by simp)).cells_arr)) ?_
  simp only [Act.put, List.getElem_toArray, List.getElem_cons_succ, List.getElem_cons_zero, List.setIfInBounds_toArray, List.set_cons_zero, List.set_cons_succ]
  refine u_take 4 rfl (o := _) rfl (by kernel_rfl) (by kernel_rfl) (by kernel_rfl) (.agg (arr p)) (fun _ _ _ h => h) (g_call rfl (by simp [Region.wanted, yielded]) 22 _ _ rfl #[.agg (arr a), .agg (arr b)] (by simp [Act.eval]) (enter_mul _) (fun f W hW => RkS.call hW (by have h := mul_any a b Ha.out Hb.out W; rw [Hp.out] at h; exact h))) ?_
  simp only [Act.put, List.getElem_toArray, List.getElem_cons_succ, List.getElem_cons_zero, List.setIfInBounds_toArray, List.set_cons_zero, List.set_cons_succ]
  refine u_take 5 rfl (o := _) rfl (by kernel_rfl) (by kernel_rfl) (by kernel_rfl) (.agg (arr a)) (fun _ _ _ h => h) (g_value rfl (by simp [Region.wanted, yielded]) (fun f W hW => run_load_arr (by rfl) (by simp [Act.eval]) ty16 a Ha.out (hW.env.at_ (w.heap.size, a) (by simp)).cells_arr)) ?_
  simp only [Act.put, List.getElem_toArray, List.getElem_cons_succ, List.getElem_cons_zero, List.setIfInBounds_toArray, List.set_cons_zero, List.set_cons_succ]
  refine u_take 6 rfl (o := _) rfl (by kernel_rfl) (by kernel_rfl) (by kernel_rfl) (.agg (arr b)) (fun _ _ _ h => h) (g_value rfl (by simp [Region.wanted, yielded]) (fun f W hW => run_load_arr (by rfl) (by simp [Act.eval]) ty16 b Hb.out (hW.env.at_ (w.heap.size + 1, b) (by simp)).cells_arr)) ?_
  simp only [Act.put, List.getElem_toArray, List.getElem_cons_succ, List.getElem_cons_zero, List.setIfInBounds_toArray, List.set_cons_zero, List.set_cons_succ]
  refine u_take 7 rfl (o := _) rfl (by kernel_rfl) (by kernel_rfl) (by kernel_rfl) (.agg (arr p)) (fun _ _ _ h => h) (g_call rfl (by simp [Region.wanted, yielded]) 23 _ _ rfl #[.agg (arr a), .agg (arr b)] (by simp [Act.eval]) (enter_rmul _) (fun f W hW => RkS.call hW (by have h := refMul_any a b Ha.out Hb.out W; rw [Hp.out] at h; exact h))) ?_
  simp only [Act.put, List.getElem_toArray, List.getElem_cons_succ, List.getElem_cons_zero, List.setIfInBounds_toArray, List.set_cons_zero, List.set_cons_succ]
  refine u_take 8 rfl (o := _) rfl (by kernel_rfl) (by kernel_rfl) (by kernel_rfl) (.bool true) (fun _ _ _ h => h) (g_value rfl (by simp [Region.wanted, yielded]) (fun f W hW => run_same16 (by rfl) p p (rfl) (by simp [Act.eval]) (by simp [Act.eval]) Hpl.out Hpl.out W)) ?_
  simp only [Act.put, List.getElem_toArray, List.getElem_cons_succ, List.getElem_cons_zero, List.setIfInBounds_toArray, List.set_cons_zero, List.set_cons_succ]
  refine u_take 9 rfl (o := _) rfl (by kernel_rfl) (by kernel_rfl) (by kernel_rfl) (.bool true) (fun _ _ _ h => h) (g_value rfl (wanted_plain rfl) (fun f W hW => run_pick (b := true) (by rfl) (by simp [Act.eval]) (by simp [Act.eval]) W)) ?_
  simp only [Act.put, List.getElem_toArray, List.getElem_cons_succ, List.getElem_cons_zero, List.setIfInBounds_toArray, List.set_cons_zero, List.set_cons_succ]
  refine u_take 10 rfl (o := _) rfl (by kernel_rfl) (by kernel_rfl) (by kernel_rfl) (.bool true) (fun _ _ _ h => h) (g_value rfl (wanted_plain rfl) (fun f W hW => run_move (by rfl) (by simp [Act.eval]) W)) ?_
  simp only [Act.put, List.getElem_toArray, List.getElem_cons_succ, List.getElem_cons_zero, List.setIfInBounds_toArray, List.set_cons_zero, List.set_cons_succ]
  refine u_take 11 rfl (o := _) rfl (by kernel_rfl) (by kernel_rfl) (by kernel_rfl) (.agg (arr a)) (fun _ _ _ h => h) (g_value rfl (by simp [Region.wanted, yielded]) (fun f W hW => run_load_arr (by rfl) (by simp [Act.eval]) ty16 a Ha.out (hW.env.at_ (w.heap.size, a) (by simp)).cells_arr)) ?_
  simp only [Act.put, List.getElem_toArray, List.getElem_cons_succ, List.getElem_cons_zero, List.setIfInBounds_toArray, List.set_cons_zero, List.set_cons_succ]
  refine u_take 12 rfl (o := _) rfl (by kernel_rfl) (by kernel_rfl) (by kernel_rfl) (.slice A n c) (fun _ _ _ h => h) (g_value rfl (by simp [Region.wanted, yielded]) (fun f W hW => run_move (by rfl) (by simp [Act.eval]) W)) ?_
  simp only [Act.put, List.getElem_toArray, List.getElem_cons_succ, List.getElem_cons_zero, List.setIfInBounds_toArray, List.set_cons_zero, List.set_cons_succ]
  refine u_take 13 rfl (o := _) rfl (by kernel_rfl) (by kernel_rfl) (by kernel_rfl) (.slice D m d) (fun _ _ _ h => h) (g_value rfl (by simp [Region.wanted, yielded]) (fun f W hW => run_move (by rfl) (by simp [Act.eval]) W)) ?_
  simp only [Act.put, List.getElem_toArray, List.getElem_cons_succ, List.getElem_cons_zero, List.setIfInBounds_toArray, List.set_cons_zero, List.set_cons_succ]
  refine u_take 14 rfl (o := _) rfl (by kernel_rfl) (by kernel_rfl) (by kernel_rfl) (.agg (arr q)) (fun _ _ _ h => h) (g_call rfl (by simp [Region.wanted, yielded]) 21 _ _ rfl #[.agg (arr a), .slice A n c, .slice D m d] (by simp [Act.eval]) (enter_hash _) (fun f W hW => RkS.call hW (by have h := hash_any a Ha.out A n c aside D m d text W hW.ra hnc hW.rt hmd (by omega) (by omega); rw [Hq.out] at h; exact h))) ?_
  simp only [Act.put, List.getElem_toArray, List.getElem_cons_succ, List.getElem_cons_zero, List.setIfInBounds_toArray, List.set_cons_zero, List.set_cons_succ]
  refine u_take 15 rfl (o := _) rfl (by kernel_rfl) (by kernel_rfl) (by kernel_rfl) (.agg (arr a)) (fun _ _ _ h => h) (g_value rfl (by simp [Region.wanted, yielded]) (fun f W hW => run_load_arr (by rfl) (by simp [Act.eval]) ty16 a Ha.out (hW.env.at_ (w.heap.size, a) (by simp)).cells_arr)) ?_
  simp only [Act.put, List.getElem_toArray, List.getElem_cons_succ, List.getElem_cons_zero, List.setIfInBounds_toArray, List.set_cons_zero, List.set_cons_succ]
  refine u_take 16 rfl (o := _) rfl (by kernel_rfl) (by kernel_rfl) (by kernel_rfl) (.slice A n c) (fun _ _ _ h => h) (g_value rfl (by simp [Region.wanted, yielded]) (fun f W hW => run_move (by rfl) (by simp [Act.eval]) W)) ?_
  simp only [Act.put, List.getElem_toArray, List.getElem_cons_succ, List.getElem_cons_zero, List.setIfInBounds_toArray, List.set_cons_zero, List.set_cons_succ]
  refine u_take 17 rfl (o := _) rfl (by kernel_rfl) (by kernel_rfl) (by kernel_rfl) (.slice D m d) (fun _ _ _ h => h) (g_value rfl (by simp [Region.wanted, yielded]) (fun f W hW => run_move (by rfl) (by simp [Act.eval]) W)) ?_
  simp only [Act.put, List.getElem_toArray, List.getElem_cons_succ, List.getElem_cons_zero, List.setIfInBounds_toArray, List.set_cons_zero, List.set_cons_succ]
  refine u_take 18 rfl (o := _) rfl (by kernel_rfl) (by kernel_rfl) (by kernel_rfl) (.agg (arr q)) (fun _ _ _ h => h) (g_call rfl (by simp [Region.wanted, yielded]) 24 _ _ rfl #[.agg (arr a), .slice A n c, .slice D m d] (by simp [Act.eval]) (enter_rhash _) (fun f W hW => RkS.call hW (by have h := refHash_any a Ha.out A n c aside D m d text W hW.ra hW.rt hnm; rw [Hq.out] at h; exact h))) ?_
  simp only [Act.put, List.getElem_toArray, List.getElem_cons_succ, List.getElem_cons_zero, List.setIfInBounds_toArray, List.set_cons_zero, List.set_cons_succ]
  refine u_take 19 rfl (o := _) rfl (by kernel_rfl) (by kernel_rfl) (by kernel_rfl) (.bool true) (fun _ _ _ h => h) (g_value rfl (by simp [Region.wanted, yielded]) (fun f W hW => run_same16 (by rfl) q q (rfl) (by simp [Act.eval]) (by simp [Act.eval]) Hql.out Hql.out W)) ?_
  simp only [Act.put, List.getElem_toArray, List.getElem_cons_succ, List.getElem_cons_zero, List.setIfInBounds_toArray, List.set_cons_zero, List.set_cons_succ]
  refine u_take 20 rfl (o := _) rfl (by kernel_rfl) (by kernel_rfl) (by kernel_rfl) (.bool true) (fun _ _ _ h => h) (g_value rfl (wanted_plain rfl) (fun f W hW => run_pick (b := true) (by rfl) (by simp [Act.eval]) (by simp [Act.eval]) W)) ?_
  simp only [Act.put, List.getElem_toArray, List.getElem_cons_succ, List.getElem_cons_zero, List.setIfInBounds_toArray, List.set_cons_zero, List.set_cons_succ]
  refine u_take 21 rfl (o := _) rfl (by kernel_rfl) (by kernel_rfl) (by kernel_rfl) (.bool true) (fun _ _ _ h => h) (g_value rfl (wanted_plain rfl) (fun f W hW => run_assign (by rfl) (by simp [Act.eval]) W)) ?_
  simp only [Act.put, List.getElem_toArray, List.getElem_cons_succ, List.getElem_cons_zero, List.setIfInBounds_toArray, List.set_cons_zero, List.set_cons_succ]
  refine u_done (by kernel_rfl) (fun W7 hW7 => ?_) _
  have hW7 : RkS w [(w.heap.size, a), (w.heap.size + 1, b)] A n aside D m text W7 := hW7
  go_wp2
  go_ret
  exact ⟨rfl, hW7.env.old⟩
end Go.Proofs.Ytbbfckdcfbacpaa
