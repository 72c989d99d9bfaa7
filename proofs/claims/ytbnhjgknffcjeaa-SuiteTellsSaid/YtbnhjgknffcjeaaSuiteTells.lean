/-
  The walk of the statement SuiteTells.
-/
import Derived.Test.YtbnhjgknffcjeaaSuiteApart
import Derived.Test.YtbnhjgknffcjeaaNonce
import Derived.Test.YtbnhjgknffcjeaaHeldU
import Derived.Test.YtbnhjgknffcjeaaHeldB
set_option linter.unusedVariables false
set_option linter.unusedSimpArgs false
namespace Go.Proofs.Ytbnhjgknffcjeaa
open Go.RowKit
theorem enter_rnonce (args : Array Value) (w : World) : (callFunc 21 args).run Try.prog w = .ok (.enter 21 args) w := by kernel_rfl
set_option maxHeartbeats 4000000 in
set_option maxRecDepth 100000 in
theorem tells_128 (iv : List UInt8) (q : UInt64) (w : World) (hiv : iv.length = 12) :
    Calls Try.prog 6 #[.int .u16 4865, .agg (arr iv), .int .u64 ((n64 q : Nat) : Int)] w fun e w' => e = .returned (.bool true) ∧ Below w.heap.size w w' := by
  have Hiv := hd hiv
  clear hiv
  obtain ⟨x, Hx⟩ : ∃ l, Hd (Suite.nonceOf iv q = l) := ⟨_, ⟨rfl⟩⟩
  have Hxl := hd (show x.length = 12 by rw [← Hx.out, Suite.nonce_len, Hiv.out])
  have hA := (Below.refl w.heap.size w).alloc (Nat.le_refl _) (.cells (arr iv) 22)
  have b0 : Blk (w.alloc (.cells (arr iv) 22)) w.heap.size 22 (arr iv) := Blk.nu rfl
  go_enter Try.func6, Try.ntmps6
  go_wp2_with fail
  refine (head10_any _).mono ?_
  rintro e w1 ⟨rfl, hC0⟩
  have hB0 := Below.refl w1.heap.size w1
  go_wp2_with (first | (go_at_call 20; refine (rLimit_128 _).mono ?_; rintro e v8 ⟨rfl, hC8⟩; have hB8 := hB7.trans (hC8.mono hB7.size)) | (go_at_call 19; refine (Limit_128 _).mono ?_; rintro e v7 ⟨rfl, hC7⟩; have hB7 := hB6.trans (hC7.mono hB6.size)) | (go_at_call 18; refine (rKeyLen_128 _).mono ?_; rintro e v6 ⟨rfl, hC6⟩; have hB6 := hB5.trans (hC6.mono hB5.size)) | (go_at_call 17; refine (KeyLen_128 _).mono ?_; rintro e v5 ⟨rfl, hC5⟩; have hB5 := hB4.trans (hC5.mono hB4.size)) | (go_at_call 16; refine (rHash_128 _).mono ?_; rintro e v4 ⟨rfl, hC4⟩; have hB4 := hB3.trans (hC4.mono hB3.size)) | (go_at_call 15; refine (Hash_128 _).mono ?_; rintro e v3 ⟨rfl, hC3⟩; have hB3 := hB2.trans (hC3.mono hB2.size)) | (go_at_call 14; refine (rKnown_128 _).mono ?_; rintro e v2 ⟨rfl, hC2⟩; have hB2 := hB1.trans (hC2.mono hB1.size)) | (go_at_call 13; refine (Known_128 _).mono ?_; rintro e v1 ⟨rfl, hC1⟩; have hB1 := hB0.trans (hC1.mono hB0.size)))
  have hE : IvS w iv v8 := by
    have h := hC0.trans (hB8.mono hC0.size)
    exact ⟨b0.below h b0.lt, hA.trans (h.mono hA.size)⟩
  clear hA b0 hC0 hB0 hB1 hB2 hB3 hB4 hB5 hB6 hB7 hB8 hC1 hC2 hC3 hC4 hC5 hC6 hC7 hC8
  refine u_start (S := fun _ => IvS w iv) 99 (by kernel_rfl) (hE.next (Below.refl _ _).drew) ?_
  refine u_take 0 rfl (o := _) rfl (by kernel_rfl) (by kernel_rfl) (by kernel_rfl) (.bool true) (fun _ _ _ h => h) (g_value rfl (wanted_plain rfl) (fun f W hW => run_move (by rfl) (by simp [Act.eval]) W)) ?_
  simp only [Act.put, List.getElem_toArray, List.getElem_cons_succ, List.getElem_cons_zero, List.setIfInBounds_toArray, List.set_cons_zero, List.set_cons_succ]
  refine u_take 1 rfl (o := _) rfl (by kernel_rfl) (by kernel_rfl) (by kernel_rfl) (.bool true) (fun _ _ _ h => h) (g_value rfl (wanted_plain rfl) (fun f W hW => run_move (by rfl) (by simp [Act.eval]) W)) ?_
  simp only [Act.put, List.getElem_toArray, List.getElem_cons_succ, List.getElem_cons_zero, List.setIfInBounds_toArray, List.set_cons_zero, List.set_cons_succ]
  refine u_take 2 rfl (o := _) rfl (by kernel_rfl) (by kernel_rfl) (by kernel_rfl) (.bool true) (fun _ _ _ h => h) (g_value rfl (by simp [Region.wanted, yielded]) (fun f W hW => run_move (by rfl) (by simp [Act.eval]) W)) ?_
  simp only [Act.put, List.getElem_toArray, List.getElem_cons_succ, List.getElem_cons_zero, List.setIfInBounds_toArray, List.set_cons_zero, List.set_cons_succ]
  refine u_take 3 rfl (o := _) rfl (by kernel_rfl) (by kernel_rfl) (by kernel_rfl) (.bool true) (fun _ _ _ h => h) (g_value rfl (wanted_plain rfl) (fun f W hW => run_pick (b := true) (by rfl) (by simp [Act.eval]) (by simp [Act.eval]) W)) ?_
  simp only [Act.put, List.getElem_toArray, List.getElem_cons_succ, List.getElem_cons_zero, List.setIfInBounds_toArray, List.set_cons_zero, List.set_cons_succ]
  refine u_take 4 rfl (o := _) rfl (by kernel_rfl) (by kernel_rfl) (by kernel_rfl) (.bool true) (fun _ _ _ h => h) (g_value rfl (wanted_plain rfl) (fun f W hW => run_move (by rfl) (by simp [Act.eval]) W)) ?_
  simp only [Act.put, List.getElem_toArray, List.getElem_cons_succ, List.getElem_cons_zero, List.setIfInBounds_toArray, List.set_cons_zero, List.set_cons_succ]
  refine u_take 5 rfl (o := _) rfl (by kernel_rfl) (by kernel_rfl) (by kernel_rfl) (.agg (arr iv)) (fun _ _ _ h => h) (g_value rfl (by simp [Region.wanted, yielded]) (fun f W hW => run_load_arr (by rfl) (by simp [Act.eval]) ty12 iv Hiv.out (IvS.at_ hW).cells_arr)) ?_
  simp only [Act.put, List.getElem_toArray, List.getElem_cons_succ, List.getElem_cons_zero, List.setIfInBounds_toArray, List.set_cons_zero, List.set_cons_succ]
  refine u_take 6 rfl (o := _) rfl (by kernel_rfl) (by kernel_rfl) (by kernel_rfl) (.int .u64 ((n64 q : Nat) : Int)) (fun _ _ _ h => h) (g_value rfl (by simp [Region.wanted, yielded]) (fun f W hW => run_move (by rfl) (by simp [Act.eval]) W)) ?_
  simp only [Act.put, List.getElem_toArray, List.getElem_cons_succ, List.getElem_cons_zero, List.setIfInBounds_toArray, List.set_cons_zero, List.set_cons_succ]
  refine u_take 7 rfl (o := _) rfl (by kernel_rfl) (by kernel_rfl) (by kernel_rfl) (.agg (arr x)) (fun _ _ _ h => h) (g_call rfl (by simp [Region.wanted, yielded]) 8 _ _ rfl #[.agg (arr iv), .int .u64 ((n64 q : Nat) : Int)] (by simp [Act.eval]) (enter_nonce _) (fun f W hW => IvS.call hW (by have h := nonce_any iv Hiv.out q W; rw [Hx.out] at h; exact h))) ?_
  simp only [Act.put, List.getElem_toArray, List.getElem_cons_succ, List.getElem_cons_zero, List.setIfInBounds_toArray, List.set_cons_zero, List.set_cons_succ]
  refine u_take 8 rfl (o := _) rfl (by kernel_rfl) (by kernel_rfl) (by kernel_rfl) (.agg (arr iv)) (fun _ _ _ h => h) (g_value rfl (by simp [Region.wanted, yielded]) (fun f W hW => run_load_arr (by rfl) (by simp [Act.eval]) ty12 iv Hiv.out (IvS.at_ hW).cells_arr)) ?_
  simp only [Act.put, List.getElem_toArray, List.getElem_cons_succ, List.getElem_cons_zero, List.setIfInBounds_toArray, List.set_cons_zero, List.set_cons_succ]
  refine u_take 9 rfl (o := _) rfl (by kernel_rfl) (by kernel_rfl) (by kernel_rfl) (.int .u64 ((n64 q : Nat) : Int)) (fun _ _ _ h => h) (g_value rfl (by simp [Region.wanted, yielded]) (fun f W hW => run_move (by rfl) (by simp [Act.eval]) W)) ?_
  simp only [Act.put, List.getElem_toArray, List.getElem_cons_succ, List.getElem_cons_zero, List.setIfInBounds_toArray, List.set_cons_zero, List.set_cons_succ]
  refine u_take 10 rfl (o := _) rfl (by kernel_rfl) (by kernel_rfl) (by kernel_rfl) (.agg (arr x)) (fun _ _ _ h => h) (g_call rfl (by simp [Region.wanted, yielded]) 21 _ _ rfl #[.agg (arr iv), .int .u64 ((n64 q : Nat) : Int)] (by simp [Act.eval]) (enter_rnonce _) (fun f W hW => IvS.call hW (by have h := rnonce_any iv Hiv.out q W; rw [Hx.out] at h; exact h))) ?_
  simp only [Act.put, List.getElem_toArray, List.getElem_cons_succ, List.getElem_cons_zero, List.setIfInBounds_toArray, List.set_cons_zero, List.set_cons_succ]
  refine u_take 11 rfl (o := _) rfl (by kernel_rfl) (by kernel_rfl) (by kernel_rfl) (.bool true) (fun _ _ _ h => h) (g_value rfl (by simp [Region.wanted, yielded]) (fun f W hW => run_eql_arr12 (by rfl) x x (by simp [Act.eval]) (by simp [Act.eval]) Hxl.out Hxl.out true (decide_eq_true rfl))) ?_
  simp only [Act.put, List.getElem_toArray, List.getElem_cons_succ, List.getElem_cons_zero, List.setIfInBounds_toArray, List.set_cons_zero, List.set_cons_succ]
  refine u_take 12 rfl (o := _) rfl (by kernel_rfl) (by kernel_rfl) (by kernel_rfl) (.bool true) (fun _ _ _ h => h) (g_value rfl (wanted_plain rfl) (fun f W hW => run_pick (b := true) (by rfl) (by simp [Act.eval]) (by simp [Act.eval]) W)) ?_
  simp only [Act.put, List.getElem_toArray, List.getElem_cons_succ, List.getElem_cons_zero, List.setIfInBounds_toArray, List.set_cons_zero, List.set_cons_succ]
  refine u_take 13 rfl (o := _) rfl (by kernel_rfl) (by kernel_rfl) (by kernel_rfl) (.bool true) (fun _ _ _ h => h) (g_value rfl (wanted_plain rfl) (fun f W hW => run_assign (by rfl) (by simp [Act.eval]) W)) ?_
  simp only [Act.put, List.getElem_toArray, List.getElem_cons_succ, List.getElem_cons_zero, List.setIfInBounds_toArray, List.set_cons_zero, List.set_cons_succ]
  refine u_done (by kernel_rfl) (fun W7 hW7 => ?_) _
  have hW7 : IvS w iv W7 := hW7
  go_wp2
  go_ret
  exact ⟨rfl, hW7.old⟩
set_option maxHeartbeats 4000000 in
set_option maxRecDepth 100000 in
theorem tells_256 (iv : List UInt8) (q : UInt64) (w : World) (hiv : iv.length = 12) :
    Calls Try.prog 6 #[.int .u16 4866, .agg (arr iv), .int .u64 ((n64 q : Nat) : Int)] w fun e w' => e = .returned (.bool true) ∧ Below w.heap.size w w' := by
  have Hiv := hd hiv
  clear hiv
  obtain ⟨x, Hx⟩ : ∃ l, Hd (Suite.nonceOf iv q = l) := ⟨_, ⟨rfl⟩⟩
  have Hxl := hd (show x.length = 12 by rw [← Hx.out, Suite.nonce_len, Hiv.out])
  have hA := (Below.refl w.heap.size w).alloc (Nat.le_refl _) (.cells (arr iv) 22)
  have b0 : Blk (w.alloc (.cells (arr iv) 22)) w.heap.size 22 (arr iv) := Blk.nu rfl
  go_enter Try.func6, Try.ntmps6
  go_wp2_with fail
  refine (head10_any _).mono ?_
  rintro e w1 ⟨rfl, hC0⟩
  have hB0 := Below.refl w1.heap.size w1
  go_wp2_with (first | (go_at_call 20; refine (rLimit_256 _).mono ?_; rintro e v8 ⟨rfl, hC8⟩; have hB8 := hB7.trans (hC8.mono hB7.size)) | (go_at_call 19; refine (Limit_256 _).mono ?_; rintro e v7 ⟨rfl, hC7⟩; have hB7 := hB6.trans (hC7.mono hB6.size)) | (go_at_call 18; refine (rKeyLen_256 _).mono ?_; rintro e v6 ⟨rfl, hC6⟩; have hB6 := hB5.trans (hC6.mono hB5.size)) | (go_at_call 17; refine (KeyLen_256 _).mono ?_; rintro e v5 ⟨rfl, hC5⟩; have hB5 := hB4.trans (hC5.mono hB4.size)) | (go_at_call 16; refine (rHash_256 _).mono ?_; rintro e v4 ⟨rfl, hC4⟩; have hB4 := hB3.trans (hC4.mono hB3.size)) | (go_at_call 15; refine (Hash_256 _).mono ?_; rintro e v3 ⟨rfl, hC3⟩; have hB3 := hB2.trans (hC3.mono hB2.size)) | (go_at_call 14; refine (rKnown_256 _).mono ?_; rintro e v2 ⟨rfl, hC2⟩; have hB2 := hB1.trans (hC2.mono hB1.size)) | (go_at_call 13; refine (Known_256 _).mono ?_; rintro e v1 ⟨rfl, hC1⟩; have hB1 := hB0.trans (hC1.mono hB0.size)))
  have hE : IvS w iv v8 := by
    have h := hC0.trans (hB8.mono hC0.size)
    exact ⟨b0.below h b0.lt, hA.trans (h.mono hA.size)⟩
  clear hA b0 hC0 hB0 hB1 hB2 hB3 hB4 hB5 hB6 hB7 hB8 hC1 hC2 hC3 hC4 hC5 hC6 hC7 hC8
  refine u_start (S := fun _ => IvS w iv) 99 (by kernel_rfl) (hE.next (Below.refl _ _).drew) ?_
  refine u_take 0 rfl (o := _) rfl (by kernel_rfl) (by kernel_rfl) (by kernel_rfl) (.bool true) (fun _ _ _ h => h) (g_value rfl (wanted_plain rfl) (fun f W hW => run_move (by rfl) (by simp [Act.eval]) W)) ?_
  simp only [Act.put, List.getElem_toArray, List.getElem_cons_succ, List.getElem_cons_zero, List.setIfInBounds_toArray, List.set_cons_zero, List.set_cons_succ]
  refine u_take 1 rfl (o := _) rfl (by kernel_rfl) (by kernel_rfl) (by kernel_rfl) (.bool true) (fun _ _ _ h => h) (g_value rfl (wanted_plain rfl) (fun f W hW => run_move (by rfl) (by simp [Act.eval]) W)) ?_
  simp only [Act.put, List.getElem_toArray, List.getElem_cons_succ, List.getElem_cons_zero, List.setIfInBounds_toArray, List.set_cons_zero, List.set_cons_succ]
  refine u_take 2 rfl (o := _) rfl (by kernel_rfl) (by kernel_rfl) (by kernel_rfl) (.bool true) (fun _ _ _ h => h) (g_value rfl (by simp [Region.wanted, yielded]) (fun f W hW => run_move (by rfl) (by simp [Act.eval]) W)) ?_
  simp only [Act.put, List.getElem_toArray, List.getElem_cons_succ, List.getElem_cons_zero, List.setIfInBounds_toArray, List.set_cons_zero, List.set_cons_succ]
  refine u_take 3 rfl (o := _) rfl (by kernel_rfl) (by kernel_rfl) (by kernel_rfl) (.bool true) (fun _ _ _ h => h) (g_value rfl (wanted_plain rfl) (fun f W hW => run_pick (b := true) (by rfl) (by simp [Act.eval]) (by simp [Act.eval]) W)) ?_
  simp only [Act.put, List.getElem_toArray, List.getElem_cons_succ, List.getElem_cons_zero, List.setIfInBounds_toArray, List.set_cons_zero, List.set_cons_succ]
  refine u_take 4 rfl (o := _) rfl (by kernel_rfl) (by kernel_rfl) (by kernel_rfl) (.bool true) (fun _ _ _ h => h) (g_value rfl (wanted_plain rfl) (fun f W hW => run_move (by rfl) (by simp [Act.eval]) W)) ?_
  simp only [Act.put, List.getElem_toArray, List.getElem_cons_succ, List.getElem_cons_zero, List.setIfInBounds_toArray, List.set_cons_zero, List.set_cons_succ]
  refine u_take 5 rfl (o := _) rfl (by kernel_rfl) (by kernel_rfl) (by kernel_rfl) (.agg (arr iv)) (fun _ _ _ h => h) (g_value rfl (by simp [Region.wanted, yielded]) (fun f W hW => run_load_arr (by rfl) (by simp [Act.eval]) ty12 iv Hiv.out (IvS.at_ hW).cells_arr)) ?_
  simp only [Act.put, List.getElem_toArray, List.getElem_cons_succ, List.getElem_cons_zero, List.setIfInBounds_toArray, List.set_cons_zero, List.set_cons_succ]
  refine u_take 6 rfl (o := _) rfl (by kernel_rfl) (by kernel_rfl) (by kernel_rfl) (.int .u64 ((n64 q : Nat) : Int)) (fun _ _ _ h => h) (g_value rfl (by simp [Region.wanted, yielded]) (fun f W hW => run_move (by rfl) (by simp [Act.eval]) W)) ?_
  simp only [Act.put, List.getElem_toArray, List.getElem_cons_succ, List.getElem_cons_zero, List.setIfInBounds_toArray, List.set_cons_zero, List.set_cons_succ]
  refine u_take 7 rfl (o := _) rfl (by kernel_rfl) (by kernel_rfl) (by kernel_rfl) (.agg (arr x)) (fun _ _ _ h => h) (g_call rfl (by simp [Region.wanted, yielded]) 8 _ _ rfl #[.agg (arr iv), .int .u64 ((n64 q : Nat) : Int)] (by simp [Act.eval]) (enter_nonce _) (fun f W hW => IvS.call hW (by have h := nonce_any iv Hiv.out q W; rw [Hx.out] at h; exact h))) ?_
  simp only [Act.put, List.getElem_toArray, List.getElem_cons_succ, List.getElem_cons_zero, List.setIfInBounds_toArray, List.set_cons_zero, List.set_cons_succ]
  refine u_take 8 rfl (o := _) rfl (by kernel_rfl) (by kernel_rfl) (by kernel_rfl) (.agg (arr iv)) (fun _ _ _ h => h) (g_value rfl (by simp [Region.wanted, yielded]) (fun f W hW => run_load_arr (by rfl) (by simp [Act.eval]) ty12 iv Hiv.out (IvS.at_ hW).cells_arr)) ?_
  simp only [Act.put, List.getElem_toArray, List.getElem_cons_succ, List.getElem_cons_zero, List.setIfInBounds_toArray, List.set_cons_zero, List.set_cons_succ]
  refine u_take 9 rfl (o := _) rfl (by kernel_rfl) (by kernel_rfl) (by kernel_rfl) (.int .u64 ((n64 q : Nat) : Int)) (fun _ _ _ h => h) (g_value rfl (by simp [Region.wanted, yielded]) (fun f W hW => run_move (by rfl) (by simp [Act.eval]) W)) ?_
  simp only [Act.put, List.getElem_toArray, List.getElem_cons_succ, List.getElem_cons_zero, List.setIfInBounds_toArray, List.set_cons_zero, List.set_cons_succ]
  refine u_take 10 rfl (o := _) rfl (by kernel_rfl) (by kernel_rfl) (by kernel_rfl) (.agg (arr x)) (fun _ _ _ h => h) (g_call rfl (by simp [Region.wanted, yielded]) 21 _ _ rfl #[.agg (arr iv), .int .u64 ((n64 q : Nat) : Int)] (by simp [Act.eval]) (enter_rnonce _) (fun f W hW => IvS.call hW (by have h := rnonce_any iv Hiv.out q W; rw [Hx.out] at h; exact h))) ?_
  simp only [Act.put, List.getElem_toArray, List.getElem_cons_succ, List.getElem_cons_zero, List.setIfInBounds_toArray, List.set_cons_zero, List.set_cons_succ]
  refine u_take 11 rfl (o := _) rfl (by kernel_rfl) (by kernel_rfl) (by kernel_rfl) (.bool true) (fun _ _ _ h => h) (g_value rfl (by simp [Region.wanted, yielded]) (fun f W hW => run_eql_arr12 (by rfl) x x (by simp [Act.eval]) (by simp [Act.eval]) Hxl.out Hxl.out true (decide_eq_true rfl))) ?_
  simp only [Act.put, List.getElem_toArray, List.getElem_cons_succ, List.getElem_cons_zero, List.setIfInBounds_toArray, List.set_cons_zero, List.set_cons_succ]
  refine u_take 12 rfl (o := _) rfl (by kernel_rfl) (by kernel_rfl) (by kernel_rfl) (.bool true) (fun _ _ _ h => h) (g_value rfl (wanted_plain rfl) (fun f W hW => run_pick (b := true) (by rfl) (by simp [Act.eval]) (by simp [Act.eval]) W)) ?_
  simp only [Act.put, List.getElem_toArray, List.getElem_cons_succ, List.getElem_cons_zero, List.setIfInBounds_toArray, List.set_cons_zero, List.set_cons_succ]
  refine u_take 13 rfl (o := _) rfl (by kernel_rfl) (by kernel_rfl) (by kernel_rfl) (.bool true) (fun _ _ _ h => h) (g_value rfl (wanted_plain rfl) (fun f W hW => run_assign (by rfl) (by simp [Act.eval]) W)) ?_
  simp only [Act.put, List.getElem_toArray, List.getElem_cons_succ, List.getElem_cons_zero, List.setIfInBounds_toArray, List.set_cons_zero, List.set_cons_succ]
  refine u_done (by kernel_rfl) (fun W7 hW7 => ?_) _
  have hW7 : IvS w iv W7 := hW7
  go_wp2
  go_ret
  exact ⟨rfl, hW7.old⟩
set_option maxHeartbeats 4000000 in
set_option maxRecDepth 100000 in
theorem tells_cha (iv : List UInt8) (q : UInt64) (w : World) (hiv : iv.length = 12) :
    Calls Try.prog 6 #[.int .u16 4867, .agg (arr iv), .int .u64 ((n64 q : Nat) : Int)] w fun e w' => e = .returned (.bool true) ∧ Below w.heap.size w w' := by
  have Hiv := hd hiv
  clear hiv
  obtain ⟨x, Hx⟩ : ∃ l, Hd (Suite.nonceOf iv q = l) := ⟨_, ⟨rfl⟩⟩
  have Hxl := hd (show x.length = 12 by rw [← Hx.out, Suite.nonce_len, Hiv.out])
  have hA := (Below.refl w.heap.size w).alloc (Nat.le_refl _) (.cells (arr iv) 22)
  have b0 : Blk (w.alloc (.cells (arr iv) 22)) w.heap.size 22 (arr iv) := Blk.nu rfl
  go_enter Try.func6, Try.ntmps6
  go_wp2_with fail
  refine (head10_any _).mono ?_
  rintro e w1 ⟨rfl, hC0⟩
  have hB0 := Below.refl w1.heap.size w1
  go_wp2_with (first | (go_at_call 20; refine (rLimit_cha _).mono ?_; rintro e v8 ⟨rfl, hC8⟩; have hB8 := hB7.trans (hC8.mono hB7.size)) | (go_at_call 19; refine (Limit_cha _).mono ?_; rintro e v7 ⟨rfl, hC7⟩; have hB7 := hB6.trans (hC7.mono hB6.size)) | (go_at_call 18; refine (rKeyLen_cha _).mono ?_; rintro e v6 ⟨rfl, hC6⟩; have hB6 := hB5.trans (hC6.mono hB5.size)) | (go_at_call 17; refine (KeyLen_cha _).mono ?_; rintro e v5 ⟨rfl, hC5⟩; have hB5 := hB4.trans (hC5.mono hB4.size)) | (go_at_call 16; refine (rHash_cha _).mono ?_; rintro e v4 ⟨rfl, hC4⟩; have hB4 := hB3.trans (hC4.mono hB3.size)) | (go_at_call 15; refine (Hash_cha _).mono ?_; rintro e v3 ⟨rfl, hC3⟩; have hB3 := hB2.trans (hC3.mono hB2.size)) | (go_at_call 14; refine (rKnown_cha _).mono ?_; rintro e v2 ⟨rfl, hC2⟩; have hB2 := hB1.trans (hC2.mono hB1.size)) | (go_at_call 13; refine (Known_cha _).mono ?_; rintro e v1 ⟨rfl, hC1⟩; have hB1 := hB0.trans (hC1.mono hB0.size)))
  have hE : IvS w iv v8 := by
    have h := hC0.trans (hB8.mono hC0.size)
    exact ⟨b0.below h b0.lt, hA.trans (h.mono hA.size)⟩
  clear hA b0 hC0 hB0 hB1 hB2 hB3 hB4 hB5 hB6 hB7 hB8 hC1 hC2 hC3 hC4 hC5 hC6 hC7 hC8
  refine u_start (S := fun _ => IvS w iv) 99 (by kernel_rfl) (hE.next (Below.refl _ _).drew) ?_
  refine u_take 0 rfl (o := _) rfl (by kernel_rfl) (by kernel_rfl) (by kernel_rfl) (.bool true) (fun _ _ _ h => h) (g_value rfl (wanted_plain rfl) (fun f W hW => run_move (by rfl) (by simp [Act.eval]) W)) ?_
  simp only [Act.put, List.getElem_toArray, List.getElem_cons_succ, List.getElem_cons_zero, List.setIfInBounds_toArray, List.set_cons_zero, List.set_cons_succ]
  refine u_take 1 rfl (o := _) rfl (by kernel_rfl) (by kernel_rfl) (by kernel_rfl) (.bool true) (fun _ _ _ h => h) (g_value rfl (wanted_plain rfl) (fun f W hW => run_move (by rfl) (by simp [Act.eval]) W)) ?_
  simp only [Act.put, List.getElem_toArray, List.getElem_cons_succ, List.getElem_cons_zero, List.setIfInBounds_toArray, List.set_cons_zero, List.set_cons_succ]
  refine u_take 2 rfl (o := _) rfl (by kernel_rfl) (by kernel_rfl) (by kernel_rfl) (.bool true) (fun _ _ _ h => h) (g_value rfl (by simp [Region.wanted, yielded]) (fun f W hW => run_move (by rfl) (by simp [Act.eval]) W)) ?_
  simp only [Act.put, List.getElem_toArray, List.getElem_cons_succ, List.getElem_cons_zero, List.setIfInBounds_toArray, List.set_cons_zero, List.set_cons_succ]
  refine u_take 3 rfl (o := _) rfl (by kernel_rfl) (by kernel_rfl) (by kernel_rfl) (.bool true) (fun _ _ _ h => h) (g_value rfl (wanted_plain rfl) (fun f W hW => run_pick (b := true) (by rfl) (by simp [Act.eval]) (by simp [Act.eval]) W)) ?_
  simp only [Act.put, List.getElem_toArray, List.getElem_cons_succ, List.getElem_cons_zero, List.setIfInBounds_toArray, List.set_cons_zero, List.set_cons_succ]
  refine u_take 4 rfl (o := _) rfl (by kernel_rfl) (by kernel_rfl) (by kernel_rfl) (.bool true) (fun _ _ _ h => h) (g_value rfl (wanted_plain rfl) (fun f W hW => run_move (by rfl) (by simp [Act.eval]) W)) ?_
  simp only [Act.put, List.getElem_toArray, List.getElem_cons_succ, List.getElem_cons_zero, List.setIfInBounds_toArray, List.set_cons_zero, List.set_cons_succ]
  refine u_take 5 rfl (o := _) rfl (by kernel_rfl) (by kernel_rfl) (by kernel_rfl) (.agg (arr iv)) (fun _ _ _ h => h) (g_value rfl (by simp [Region.wanted, yielded]) (fun f W hW => run_load_arr (by rfl) (by simp [Act.eval]) ty12 iv Hiv.out (IvS.at_ hW).cells_arr)) ?_
  simp only [Act.put, List.getElem_toArray, List.getElem_cons_succ, List.getElem_cons_zero, List.setIfInBounds_toArray, List.set_cons_zero, List.set_cons_succ]
  refine u_take 6 rfl (o := _) rfl (by kernel_rfl) (by kernel_rfl) (by kernel_rfl) (.int .u64 ((n64 q : Nat) : Int)) (fun _ _ _ h => h) (g_value rfl (by simp [Region.wanted, yielded]) (fun f W hW => run_move (by rfl) (by simp [Act.eval]) W)) ?_
  simp only [Act.put, List.getElem_toArray, List.getElem_cons_succ, List.getElem_cons_zero, List.setIfInBounds_toArray, List.set_cons_zero, List.set_cons_succ]
  refine u_take 7 rfl (o := _) rfl (by kernel_rfl) (by kernel_rfl) (by kernel_rfl) (.agg (arr x)) (fun _ _ _ h => h) (g_call rfl (by simp [Region.wanted, yielded]) 8 _ _ rfl #[.agg (arr iv), .int .u64 ((n64 q : Nat) : Int)] (by simp [Act.eval]) (enter_nonce _) (fun f W hW => IvS.call hW (by have h := nonce_any iv Hiv.out q W; rw [Hx.out] at h; exact h))) ?_
  simp only [Act.put, List.getElem_toArray, List.getElem_cons_succ, List.getElem_cons_zero, List.setIfInBounds_toArray, List.set_cons_zero, List.set_cons_succ]
  refine u_take 8 rfl (o := _) rfl (by kernel_rfl) (by kernel_rfl) (by kernel_rfl) (.agg (arr iv)) (fun _ _ _ h => h) (g_value rfl (by simp [Region.wanted, yielded]) (fun f W hW => run_load_arr (by rfl) (by simp [Act.eval]) ty12 iv Hiv.out (IvS.at_ hW).cells_arr)) ?_
  simp only [Act.put, List.getElem_toArray, List.getElem_cons_succ, List.getElem_cons_zero, List.setIfInBounds_toArray, List.set_cons_zero, List.set_cons_succ]
  refine u_take 9 rfl (o := _) rfl (by kernel_rfl) (by kernel_rfl) (by kernel_rfl) (.int .u64 ((n64 q : Nat) : Int)) (fun _ _ _ h => h) (g_value rfl (by simp [Region.wanted, yielded]) (fun f W hW => run_move (by rfl) (by simp [Act.eval]) W)) ?_
  simp only [Act.put, List.getElem_toArray, List.getElem_cons_succ, List.getElem_cons_zero, List.setIfInBounds_toArray, List.set_cons_zero, List.set_cons_succ]
  refine u_take 10 rfl (o := _) rfl (by kernel_rfl) (by kernel_rfl) (by kernel_rfl) (.agg (arr x)) (fun _ _ _ h => h) (g_call rfl (by simp [Region.wanted, yielded]) 21 _ _ rfl #[.agg (arr iv), .int .u64 ((n64 q : Nat) : Int)] (by simp [Act.eval]) (enter_rnonce _) (fun f W hW => IvS.call hW (by have h := rnonce_any iv Hiv.out q W; rw [Hx.out] at h; exact h))) ?_
  simp only [Act.put, List.getElem_toArray, List.getElem_cons_succ, List.getElem_cons_zero, List.setIfInBounds_toArray, List.set_cons_zero, List.set_cons_succ]
  refine u_take 11 rfl (o := _) rfl (by kernel_rfl) (by kernel_rfl) (by kernel_rfl) (.bool true) (fun _ _ _ h => h) (g_value rfl (by simp [Region.wanted, yielded]) (fun f W hW => run_eql_arr12 (by rfl) x x (by simp [Act.eval]) (by simp [Act.eval]) Hxl.out Hxl.out true (decide_eq_true rfl))) ?_
  simp only [Act.put, List.getElem_toArray, List.getElem_cons_succ, List.getElem_cons_zero, List.setIfInBounds_toArray, List.set_cons_zero, List.set_cons_succ]
  refine u_take 12 rfl (o := _) rfl (by kernel_rfl) (by kernel_rfl) (by kernel_rfl) (.bool true) (fun _ _ _ h => h) (g_value rfl (wanted_plain rfl) (fun f W hW => run_pick (b := true) (by rfl) (by simp [Act.eval]) (by simp [Act.eval]) W)) ?_
  simp only [Act.put, List.getElem_toArray, List.getElem_cons_succ, List.getElem_cons_zero, List.setIfInBounds_toArray, List.set_cons_zero, List.set_cons_succ]
  refine u_take 13 rfl (o := _) rfl (by kernel_rfl) (by kernel_rfl) (by kernel_rfl) (.bool true) (fun _ _ _ h => h) (g_value rfl (wanted_plain rfl) (fun f W hW => run_assign (by rfl) (by simp [Act.eval]) W)) ?_
  simp only [Act.put, List.getElem_toArray, List.getElem_cons_succ, List.getElem_cons_zero, List.setIfInBounds_toArray, List.set_cons_zero, List.set_cons_succ]
  refine u_done (by kernel_rfl) (fun W7 hW7 => ?_) _
  have hW7 : IvS w iv W7 := hW7
  go_wp2
  go_ret
  exact ⟨rfl, hW7.old⟩
set_option maxHeartbeats 4000000 in
set_option maxRecDepth 100000 in
theorem tells_none (s : UInt16) (h1 : (s == 4865) = false) (h2 : (s == 4866) = false) (h3 : (s == 4867) = false) (iv : List UInt8) (q : UInt64) (w : World) (hiv : iv.length = 12) :
    Calls Try.prog 6 #[.int .u16 ((n16 s : Nat) : Int), .agg (arr iv), .int .u64 ((n64 q : Nat) : Int)] w fun e w' => e = .returned (.bool true) ∧ Below w.heap.size w w' := by
  have Hiv := hd hiv
  clear hiv
  obtain ⟨x, Hx⟩ : ∃ l, Hd (Suite.nonceOf iv q = l) := ⟨_, ⟨rfl⟩⟩
  have Hxl := hd (show x.length = 12 by rw [← Hx.out, Suite.nonce_len, Hiv.out])
  have hA := (Below.refl w.heap.size w).alloc (Nat.le_refl _) (.cells (arr iv) 22)
  have b0 : Blk (w.alloc (.cells (arr iv) 22)) w.heap.size 22 (arr iv) := Blk.nu rfl
  go_enter Try.func6, Try.ntmps6
  go_wp2_with fail
  refine (head10_any _).mono ?_
  rintro e w1 ⟨rfl, hC0⟩
  have hB0 := Below.refl w1.heap.size w1
  go_wp2_with (first | (go_at_call 20; refine (rLimit_none s h1 h2 h3 _).mono ?_; rintro e v8 ⟨rfl, hC8⟩; have hB8 := hB7.trans (hC8.mono hB7.size)) | (go_at_call 19; refine (Limit_none s h1 h2 h3 _).mono ?_; rintro e v7 ⟨rfl, hC7⟩; have hB7 := hB6.trans (hC7.mono hB6.size)) | (go_at_call 18; refine (rKeyLen_none s h1 h2 h3 _).mono ?_; rintro e v6 ⟨rfl, hC6⟩; have hB6 := hB5.trans (hC6.mono hB5.size)) | (go_at_call 17; refine (KeyLen_none s h1 h2 h3 _).mono ?_; rintro e v5 ⟨rfl, hC5⟩; have hB5 := hB4.trans (hC5.mono hB4.size)) | (go_at_call 16; refine (rHash_none s h1 h2 h3 _).mono ?_; rintro e v4 ⟨rfl, hC4⟩; have hB4 := hB3.trans (hC4.mono hB3.size)) | (go_at_call 15; refine (Hash_none s h1 h2 h3 _).mono ?_; rintro e v3 ⟨rfl, hC3⟩; have hB3 := hB2.trans (hC3.mono hB2.size)) | (go_at_call 14; refine (rKnown_none s h1 h2 h3 _).mono ?_; rintro e v2 ⟨rfl, hC2⟩; have hB2 := hB1.trans (hC2.mono hB1.size)) | (go_at_call 13; refine (Known_none s h1 h2 h3 _).mono ?_; rintro e v1 ⟨rfl, hC1⟩; have hB1 := hB0.trans (hC1.mono hB0.size)))
  have hE : IvS w iv v8 := by
    have h := hC0.trans (hB8.mono hC0.size)
    exact ⟨b0.below h b0.lt, hA.trans (h.mono hA.size)⟩
  clear hA b0 hC0 hB0 hB1 hB2 hB3 hB4 hB5 hB6 hB7 hB8 hC1 hC2 hC3 hC4 hC5 hC6 hC7 hC8
  refine u_start (S := fun _ => IvS w iv) 99 (by kernel_rfl) (hE.next (Below.refl _ _).drew) ?_
  refine u_take 0 rfl (o := _) rfl (by kernel_rfl) (by kernel_rfl) (by kernel_rfl) (.bool true) (fun _ _ _ h => h) (g_value rfl (wanted_plain rfl) (fun f W hW => run_move (by rfl) (by simp [Act.eval]) W)) ?_
  simp only [Act.put, List.getElem_toArray, List.getElem_cons_succ, List.getElem_cons_zero, List.setIfInBounds_toArray, List.set_cons_zero, List.set_cons_succ]
  refine u_take 1 rfl (o := _) rfl (by kernel_rfl) (by kernel_rfl) (by kernel_rfl) (.bool true) (fun _ _ _ h => h) (g_value rfl (wanted_plain rfl) (fun f W hW => run_move (by rfl) (by simp [Act.eval]) W)) ?_
  simp only [Act.put, List.getElem_toArray, List.getElem_cons_succ, List.getElem_cons_zero, List.setIfInBounds_toArray, List.set_cons_zero, List.set_cons_succ]
  refine u_take 2 rfl (o := _) rfl (by kernel_rfl) (by kernel_rfl) (by kernel_rfl) (.bool true) (fun _ _ _ h => h) (g_value rfl (by simp [Region.wanted, yielded]) (fun f W hW => run_move (by rfl) (by simp [Act.eval]) W)) ?_
  simp only [Act.put, List.getElem_toArray, List.getElem_cons_succ, List.getElem_cons_zero, List.setIfInBounds_toArray, List.set_cons_zero, List.set_cons_succ]
  refine u_take 3 rfl (o := _) rfl (by kernel_rfl) (by kernel_rfl) (by kernel_rfl) (.bool true) (fun _ _ _ h => h) (g_value rfl (wanted_plain rfl) (fun f W hW => run_pick (b := true) (by rfl) (by simp [Act.eval]) (by simp [Act.eval]) W)) ?_
  simp only [Act.put, List.getElem_toArray, List.getElem_cons_succ, List.getElem_cons_zero, List.setIfInBounds_toArray, List.set_cons_zero, List.set_cons_succ]
  refine u_take 4 rfl (o := _) rfl (by kernel_rfl) (by kernel_rfl) (by kernel_rfl) (.bool true) (fun _ _ _ h => h) (g_value rfl (wanted_plain rfl) (fun f W hW => run_move (by rfl) (by simp [Act.eval]) W)) ?_
  simp only [Act.put, List.getElem_toArray, List.getElem_cons_succ, List.getElem_cons_zero, List.setIfInBounds_toArray, List.set_cons_zero, List.set_cons_succ]
  refine u_take 5 rfl (o := _) rfl (by kernel_rfl) (by kernel_rfl) (by kernel_rfl) (.agg (arr iv)) (fun _ _ _ h => h) (g_value rfl (by simp [Region.wanted, yielded]) (fun f W hW => run_load_arr (by rfl) (by simp [Act.eval]) ty12 iv Hiv.out (IvS.at_ hW).cells_arr)) ?_
  simp only [Act.put, List.getElem_toArray, List.getElem_cons_succ, List.getElem_cons_zero, List.setIfInBounds_toArray, List.set_cons_zero, List.set_cons_succ]
  refine u_take 6 rfl (o := _) rfl (by kernel_rfl) (by kernel_rfl) (by kernel_rfl) (.int .u64 ((n64 q : Nat) : Int)) (fun _ _ _ h => h) (g_value rfl (by simp [Region.wanted, yielded]) (fun f W hW => run_move (by rfl) (by simp [Act.eval]) W)) ?_
  simp only [Act.put, List.getElem_toArray, List.getElem_cons_succ, List.getElem_cons_zero, List.setIfInBounds_toArray, List.set_cons_zero, List.set_cons_succ]
  refine u_take 7 rfl (o := _) rfl (by kernel_rfl) (by kernel_rfl) (by kernel_rfl) (.agg (arr x)) (fun _ _ _ h => h) (g_call rfl (by simp [Region.wanted, yielded]) 8 _ _ rfl #[.agg (arr iv), .int .u64 ((n64 q : Nat) : Int)] (by simp [Act.eval]) (enter_nonce _) (fun f W hW => IvS.call hW (by have h := nonce_any iv Hiv.out q W; rw [Hx.out] at h; exact h))) ?_
  simp only [Act.put, List.getElem_toArray, List.getElem_cons_succ, List.getElem_cons_zero, List.setIfInBounds_toArray, List.set_cons_zero, List.set_cons_succ]
  refine u_take 8 rfl (o := _) rfl (by kernel_rfl) (by kernel_rfl) (by kernel_rfl) (.agg (arr iv)) (fun _ _ _ h => h) (g_value rfl (by simp [Region.wanted, yielded]) (fun f W hW => run_load_arr (by rfl) (by simp [Act.eval]) ty12 iv Hiv.out (IvS.at_ hW).cells_arr)) ?_
  simp only [Act.put, List.getElem_toArray, List.getElem_cons_succ, List.getElem_cons_zero, List.setIfInBounds_toArray, List.set_cons_zero, List.set_cons_succ]
  refine u_take 9 rfl (o := _) rfl (by kernel_rfl) (by kernel_rfl) (by kernel_rfl) (.int .u64 ((n64 q : Nat) : Int)) (fun _ _ _ h => h) (g_value rfl (by simp [Region.wanted, yielded]) (fun f W hW => run_move (by rfl) (by simp [Act.eval]) W)) ?_
  simp only [Act.put, List.getElem_toArray, List.getElem_cons_succ, List.getElem_cons_zero, List.setIfInBounds_toArray, List.set_cons_zero, List.set_cons_succ]
  refine u_take 10 rfl (o := _) rfl (by kernel_rfl) (by kernel_rfl) (by kernel_rfl) (.agg (arr x)) (fun _ _ _ h => h) (g_call rfl (by simp [Region.wanted, yielded]) 21 _ _ rfl #[.agg (arr iv), .int .u64 ((n64 q : Nat) : Int)] (by simp [Act.eval]) (enter_rnonce _) (fun f W hW => IvS.call hW (by have h := rnonce_any iv Hiv.out q W; rw [Hx.out] at h; exact h))) ?_
  simp only [Act.put, List.getElem_toArray, List.getElem_cons_succ, List.getElem_cons_zero, List.setIfInBounds_toArray, List.set_cons_zero, List.set_cons_succ]
  refine u_take 11 rfl (o := _) rfl (by kernel_rfl) (by kernel_rfl) (by kernel_rfl) (.bool true) (fun _ _ _ h => h) (g_value rfl (by simp [Region.wanted, yielded]) (fun f W hW => run_eql_arr12 (by rfl) x x (by simp [Act.eval]) (by simp [Act.eval]) Hxl.out Hxl.out true (decide_eq_true rfl))) ?_
  simp only [Act.put, List.getElem_toArray, List.getElem_cons_succ, List.getElem_cons_zero, List.setIfInBounds_toArray, List.set_cons_zero, List.set_cons_succ]
  refine u_take 12 rfl (o := _) rfl (by kernel_rfl) (by kernel_rfl) (by kernel_rfl) (.bool true) (fun _ _ _ h => h) (g_value rfl (wanted_plain rfl) (fun f W hW => run_pick (b := true) (by rfl) (by simp [Act.eval]) (by simp [Act.eval]) W)) ?_
  simp only [Act.put, List.getElem_toArray, List.getElem_cons_succ, List.getElem_cons_zero, List.setIfInBounds_toArray, List.set_cons_zero, List.set_cons_succ]
  refine u_take 13 rfl (o := _) rfl (by kernel_rfl) (by kernel_rfl) (by kernel_rfl) (.bool true) (fun _ _ _ h => h) (g_value rfl (wanted_plain rfl) (fun f W hW => run_assign (by rfl) (by simp [Act.eval]) W)) ?_
  simp only [Act.put, List.getElem_toArray, List.getElem_cons_succ, List.getElem_cons_zero, List.setIfInBounds_toArray, List.set_cons_zero, List.set_cons_succ]
  refine u_done (by kernel_rfl) (fun W7 hW7 => ?_) _
  have hW7 : IvS w iv W7 := hW7
  go_wp2
  go_ret
  exact ⟨rfl, hW7.old⟩
theorem tells_all (s : UInt16) (iv : List UInt8) (q : UInt64) (w : World) (hiv : iv.length = 12) :
    Calls Try.prog 6 #[.int .u16 ((n16 s : Nat) : Int), .agg (arr iv), .int .u64 ((n64 q : Nat) : Int)] w fun e w' => e = .returned (.bool true) ∧ Below w.heap.size w w' := by
  cases h1 : (s == 4865)
  · cases h2 : (s == 4866)
    · cases h3 : (s == 4867)
      · exact tells_none s h1 h2 h3 iv q w hiv
      · obtain rfl := eq_of_beq h3
        exact tells_cha iv q w hiv
    · obtain rfl := eq_of_beq h2
      exact tells_256 iv q w hiv
  · obtain rfl := eq_of_beq h1
    exact tells_128 iv q w hiv
end Go.Proofs.Ytbnhjgknffcjeaa
