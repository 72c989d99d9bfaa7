/-
  The walks of chacha's Seal and Open.
-/
import Derived.Test.YthigbggacgiamaaDoorChaK
import Derived.Test.YthigbggacgiamaaDoorChaQ
import Derived.Test.YthigbggacgiamaaDoorOpenA
set_option linter.unusedVariables false
set_option linter.unusedSimpArgs false
set_option maxRecDepth 100000
namespace Go.Proofs.YthigbggacgiamaaDoor
open Go.RowKit
namespace Cha
def lock (key nonce aside text : List UInt8) : List UInt8 := stream key 1 nonce text ++ tag key nonce aside (stream key 1 nonce text)
def unlock (key nonce aside sealed : List UInt8) : Option (List UInt8) :=
  if sealed.length < 16 then none
  else if tag key nonce aside (sealed.take (sealed.length - 16)) = sealed.drop (sealed.length - 16) then some (stream key 1 nonce (sealed.take (sealed.length - 16))) else none
theorem lock_len (key nonce aside text : List UInt8) : (lock key nonce aside text).length = text.length + 16 := by
  rw [lock, List.length_append, stream_len, tag_len]
theorem unlock_lock (key nonce aside text : List UInt8) : unlock key nonce aside (lock key nonce aside text) = some text := by
  have hl := lock_len key nonce aside text
  have e : (lock key nonce aside text).length - 16 = (stream key 1 nonce text).length := by rw [hl, stream_len]; omega
  rw [unlock, if_neg (by omega), e, lock, List.take_left', List.drop_left', if_pos rfl, stream_twice]
  · rfl
  · rfl
theorem lock_unlock (key nonce aside sealed text : List UInt8) (h : unlock key nonce aside sealed = some text) : lock key nonce aside text = sealed := by
  rw [unlock] at h
  split at h
  · cases h
  · split at h
    · rename_i hq
      injection h with h
      subst h
      rw [lock, stream_twice, hq, List.take_append_drop]
    · cases h
/-- What the walks hold. -/
structure Oc (w : World) (key nonce : List UInt8) (D : Option Addr) (p : Nat) (aside : List UInt8) (E : Option Addr) (m : Nat) (sealed : List UInt8) (W : World) : Prop where
  bk : Blk W w.heap.size 23 (arr key)
  bn : Blk W (w.heap.size + 1) 27 (arr nonce)
  ra : ReadsB W W.heap.size D p aside
  rt : ReadsB W W.heap.size E m sealed
  old : Below w.heap.size w W
section
variable {w : World} {key nonce : List UInt8} {D : Option Addr} {p : Nat} {aside : List UInt8} {E : Option Addr} {m : Nat} {sealed : List UInt8} {W w' : World}
theorem Oc.next (h : Oc w key nonce D p aside E m sealed W) (hb : Below W.heap.size W w') : Oc w key nonce D p aside E m sealed w' :=
  ⟨h.bk.below hb h.bk.lt, h.bn.below hb h.bn.lt, h.ra.onward hb, h.rt.onward hb, h.old.trans (hb.mono h.old.size)⟩
theorem Oc.drew (h : Oc w key nonce D p aside E m sealed W) : Oc w key nonce D p aside E m sealed W.drew := h.next (Below.refl _ _).drew
theorem Oc.first (ha : ReadsB w w.heap.size D p aside) (ht : ReadsB w w.heap.size E m sealed) : Oc w key nonce D p aside E m sealed ((w.alloc (.cells (arr key) 23)).alloc (.cells (arr nonce) 27)) := by
  have hB0 := ((Below.refl w.heap.size w).alloc (by simp) (.cells (arr key) 23)).alloc (by simp) (.cells (arr nonce) 27)
  exact ⟨(Blk.nu rfl).alloc _, Blk.nu (by simp), ha.onward hB0, ht.onward hB0, hB0⟩
end
theorem enter_tag (args : Array Value) (w : World) : (callFunc 53 args).run Tryd.prog w = .ok (.enter 53 args) w := by kernel_rfl
theorem enter_stream (args : Array Value) (w : World) : (callFunc 52 args).run Tryd.prog w = .ok (.enter 52 args) w := by kernel_rfl
/-- A slice and an error: of what was opened, or of a refusal. -/
def Opened (w : World) (r : Option (List UInt8)) (e : Ending) (w' : World) : Prop := match r with
  | some l => ∃ v, e = .returned (.tuple #[v, .int .i64 0]) ∧ OwnB w' w.heap.size v l ∧ Below w.heap.size w w'
  | none => e = .returned (.tuple #[.slice none 0 0, .int .i64 91]) ∧ Below w.heap.size w w'
attribute [irreducible] lock unlock
end Cha
set_option maxHeartbeats 8000000 in
set_option maxRecDepth 100000 in
theorem Cha.seal_any (key nonce : List UInt8) (hk : key.length = 32) (hnn : nonce.length = 12) (D : Option Addr) (p q : Nat) (aside : List UInt8) (E : Option Addr) (m d : Nat) (text : List UInt8) (w : World)
    (ha : ReadsB w w.heap.size D p aside) (ht : ReadsB w w.heap.size E m text) (hs : p + m ≤ 140737488355200) :
    Calls Tryd.prog 39 #[.agg (arr key), .agg (arr nonce), .slice D p q, .slice E m d] w fun e w' => ∃ v, e = .returned v ∧ OwnB w' w.heap.size v (Cha.lock key nonce aside text) ∧ Below w.heap.size w w' := by
  have HK := hd hk
  have HN := hd hnn
  have Lt := hd ht.len
  clear hk hnn
  obtain ⟨md, Hmd⟩ : ∃ x, Hd (Cha.stream key 1 nonce text = x) := ⟨_, ⟨rfl⟩⟩
  have Lmd := hd (show md.length = m by rw [← Hmd.out, Cha.stream_len, Lt.out])
  obtain ⟨tg, Htg⟩ : ∃ x, Hd (Cha.tag key nonce aside md = x) := ⟨_, ⟨rfl⟩⟩
  have Ltg := hd (show tg.length = 16 by rw [← Htg.out, Cha.tag_len])
  have Hfin := hd (show Cha.lock key nonce aside text = md ++ tg by unfold Cha.lock; rw [Hmd.out, Htg.out])
  have H0 : Cha.Oc w key nonce D p aside E m text _ := Cha.Oc.first ha ht
  go_enter Tryd.func39, Tryd.ntmps39
  go_wp2_with (first | (refine wpl_load_arr rfl 23 _ rfl _ rfl 32 Cha.ty32 key HK.out H0.bk.cells_arr ?_) | (refine wpl_load_arr rfl 27 _ rfl _ rfl 12 Cha.ty12 nonce HN.out H0.bn.cells_arr ?_))
  refine (Cha.stream_any key nonce 1 HK.out HN.out E m d text _ H0.rt (by omega)).mono ?_
  rintro e W1 ⟨v1, rfl, own1, hE1⟩
  rw [Hmd.out] at own1
  have H1 := H0.next hE1
  have hb1 := H0.old.size
  have hlo := hE1.size
  clear H0 hE1
  obtain ⟨A1, c1, e1⟩ := own1.slice
  rw [Lmd.out] at e1
  subst e1
  have hmd : ReadsB W1 W1.heap.size A1 m md := by have h := own1.reads_any; exact ⟨Lmd.out, h.2.is⟩
  have lim : p + m ≤ 140737488355200 := hs
  go_wp2_with (first | (refine wpl_load_arr rfl 23 _ rfl _ rfl 32 Cha.ty32 key HK.out H1.bk.cells_arr ?_) | (refine wpl_load_arr rfl 27 _ rfl _ rfl 12 Cha.ty12 nonce HN.out H1.bn.cells_arr ?_))
  refine (Cha.tag_any key nonce HK.out HN.out D p q aside A1 m c1 md _ H1.ra hmd lim).mono ?_
  rintro e W2 ⟨y, rfl, by2, hy, hE2⟩
  rw [Htg.out] at by2
  have own2 := own1.later hE2
  have old2 := H1.old.trans (hE2.mono H1.old.size)
  have hsz := hE2.size
  have hr2 : ReadsB W2 W2.heap.size (some ⟨y, 0, none⟩) 16 tg := Cha.blk_reads by2 Ltg.out by2.lt
  have hl2 : md.length + tg.length ≤ 140737488355328 := by rw [Lmd.out, Ltg.out]; omega
  have own3 := own2.low (B' := w.heap.size) hb1
  go_wp2_with (at_builtin; refine wpl_appendB rfl _ _ rfl w.heap.size (.slice A1 m c1) md rfl own3 W2.heap.size _ 16 16 tg rfl hr2 hl2 old2.size ?_; intro v3 W3 own4 gr4 at4)
  go_ret
  exact ⟨v3, rfl, by rw [Hfin.out]; exact own4, below_appended old2 own3 gr4 (Nat.le_refl _) old2.size⟩
set_option maxHeartbeats 8000000 in
set_option maxRecDepth 100000 in
theorem Cha.open_any (key nonce : List UInt8) (hk : key.length = 32) (hnn : nonce.length = 12) (D : Option Addr) (p q : Nat) (aside : List UInt8) (E : Option Addr) (m d : Nat) (sealed : List UInt8) (w : World)
    (ha : ReadsB w w.heap.size D p aside) (ht : ReadsB w w.heap.size E m sealed) (hmd : m ≤ d) (hs : p + m ≤ 140737488355200) :
    Calls Tryd.prog 40 #[.agg (arr key), .agg (arr nonce), .slice D p q, .slice E m d] w fun e w' => Cha.Opened w (Cha.unlock key nonce aside sealed) e w' := by
  have HK := hd hk
  have HN := hd hnn
  have Lt := hd ht.len
  clear hk hnn
  have H0 : Cha.Oc w key nonce D p aside E m sealed _ := Cha.Oc.first ha ht
  by_cases hsh : m < 16
  · have Hu := hd (show Cha.unlock key nonce aside sealed = none by unfold Cha.unlock; rw [Lt.out, if_pos hsh])
    obtain ⟨z, ez, wz⟩ : ∃ z : Int, (m : Int) - 16 = z ∧ z < 0 := ⟨_, rfl, by omega⟩
    have e2 : IntKind.i64.wrap z = z := IntWalk.i64_in _ (by omega)
    have h0 := hd (decide_eq_true wz)
    clear wz
    go_enter Tryd.func40, Tryd.ntmps40
    go_wp2
    refine p_start (Cha.Oc w key nonce D p aside E m sealed) (by kernel_rfl) H0.drew ?_
    clear H0
    refine p_take 0 (o := _) rfl (by kernel_rfl) (by kernel_rfl) (by kernel_rfl) (wanted_plain rfl) (.int .i64 z) (fun _ _ _ h => h) (fun W hW => run_move (by rfl) (by simp [Act.eval]) W) ?_
    simp only [Act.put, List.getElem_toArray, List.getElem_cons_succ, List.getElem_cons_zero, List.setIfInBounds_toArray, List.set_cons_zero, List.set_cons_succ]
    refine p_take 1 (o := _) rfl (by kernel_rfl) (by kernel_rfl) (by kernel_rfl) (wanted_plain rfl) (.bool true) (fun _ _ _ h => h) (fun W hW => run_lss_int (by rfl) z 0 (by simp [Act.eval]) (by simp [Act.eval]) true h0.out) ?_
    simp only [Act.put, List.getElem_toArray, List.getElem_cons_succ, List.getElem_cons_zero, List.setIfInBounds_toArray, List.set_cons_zero, List.set_cons_succ]
    refine p_take 2 (o := _) rfl (by kernel_rfl) (by kernel_rfl) (by kernel_rfl) (wanted_plain rfl) (.bool true) (fun _ _ _ h => h) (fun W hW => run_move (by rfl) (by simp [Act.eval]) W) ?_
    simp only [Act.put, List.getElem_toArray, List.getElem_cons_succ, List.getElem_cons_zero, List.setIfInBounds_toArray, List.set_cons_zero, List.set_cons_succ]
    refine p_not 3 (o := _) rfl (by kernel_rfl) (by kernel_rfl) (by kernel_rfl) (by simp [Region.wanted, yielded]) (fun _ _ _ h => h) ?_
    simp only [Act.put, List.getElem_toArray, List.getElem_cons_succ, List.getElem_cons_zero, List.setIfInBounds_toArray, List.set_cons_zero, List.set_cons_succ]
    refine p_not 4 (o := _) rfl (by kernel_rfl) (by kernel_rfl) (by kernel_rfl) (by simp [Region.wanted, yielded]) (fun _ _ _ h => h) ?_
    simp only [Act.put, List.getElem_toArray, List.getElem_cons_succ, List.getElem_cons_zero, List.setIfInBounds_toArray, List.set_cons_zero, List.set_cons_succ]
    refine p_not 5 (o := _) rfl (by kernel_rfl) (by kernel_rfl) (by kernel_rfl) (by simp [Region.wanted, yielded]) (fun _ _ _ h => h) ?_
    simp only [Act.put, List.getElem_toArray, List.getElem_cons_succ, List.getElem_cons_zero, List.setIfInBounds_toArray, List.set_cons_zero, List.set_cons_succ]
    refine p_not 6 (o := _) rfl (by kernel_rfl) (by kernel_rfl) (by kernel_rfl) (by simp [Region.wanted, yielded]) (fun _ _ _ h => h) ?_
    simp only [Act.put, List.getElem_toArray, List.getElem_cons_succ, List.getElem_cons_zero, List.setIfInBounds_toArray, List.set_cons_zero, List.set_cons_succ]
    refine p_not 7 (o := _) rfl (by kernel_rfl) (by kernel_rfl) (by kernel_rfl) (by simp [Region.wanted, yielded]) (fun _ _ _ h => h) ?_
    simp only [Act.put, List.getElem_toArray, List.getElem_cons_succ, List.getElem_cons_zero, List.setIfInBounds_toArray, List.set_cons_zero, List.set_cons_succ]
    refine p_not 8 (o := _) rfl (by kernel_rfl) (by kernel_rfl) (by kernel_rfl) (by simp [Region.wanted, yielded]) (fun _ _ _ h => h) ?_
    simp only [Act.put, List.getElem_toArray, List.getElem_cons_succ, List.getElem_cons_zero, List.setIfInBounds_toArray, List.set_cons_zero, List.set_cons_succ]
    refine p_not 9 (o := _) rfl (by kernel_rfl) (by kernel_rfl) (by kernel_rfl) (by simp [Region.wanted, yielded]) (fun _ _ _ h => h) ?_
    simp only [Act.put, List.getElem_toArray, List.getElem_cons_succ, List.getElem_cons_zero, List.setIfInBounds_toArray, List.set_cons_zero, List.set_cons_succ]
    refine p_not 10 (o := _) rfl (by kernel_rfl) (by kernel_rfl) (by kernel_rfl) (by simp [Region.wanted, yielded]) (fun _ _ _ h => h) ?_
    simp only [Act.put, List.getElem_toArray, List.getElem_cons_succ, List.getElem_cons_zero, List.setIfInBounds_toArray, List.set_cons_zero, List.set_cons_succ]
    refine p_not 11 (o := _) rfl (by kernel_rfl) (by kernel_rfl) (by kernel_rfl) (by simp [Region.wanted, yielded]) (fun _ _ _ h => h) ?_
    simp only [Act.put, List.getElem_toArray, List.getElem_cons_succ, List.getElem_cons_zero, List.setIfInBounds_toArray, List.set_cons_zero, List.set_cons_succ]
    refine p_not 12 (o := _) rfl (by kernel_rfl) (by kernel_rfl) (by kernel_rfl) (by simp [Region.wanted, yielded]) (fun _ _ _ h => h) ?_
    simp only [Act.put, List.getElem_toArray, List.getElem_cons_succ, List.getElem_cons_zero, List.setIfInBounds_toArray, List.set_cons_zero, List.set_cons_succ]
    refine p_not 13 (o := _) rfl (by kernel_rfl) (by kernel_rfl) (by kernel_rfl) (by simp [Region.wanted, yielded]) (fun _ _ _ h => h) ?_
    simp only [Act.put, List.getElem_toArray, List.getElem_cons_succ, List.getElem_cons_zero, List.setIfInBounds_toArray, List.set_cons_zero, List.set_cons_succ]
    refine p_not 14 (o := _) rfl (by kernel_rfl) (by kernel_rfl) (by kernel_rfl) (by simp [Region.wanted, yielded]) (fun _ _ _ h => h) ?_
    simp only [Act.put, List.getElem_toArray, List.getElem_cons_succ, List.getElem_cons_zero, List.setIfInBounds_toArray, List.set_cons_zero, List.set_cons_succ]
    refine p_take 15 (o := _) rfl (by kernel_rfl) (by kernel_rfl) (by kernel_rfl) (wanted_plain rfl) (.bool true) (fun _ _ _ h => h) (fun W hW => run_pick (b := true) (by rfl) (by simp [Act.eval]) (by simp [Act.eval]) W) ?_
    simp only [Act.put, List.getElem_toArray, List.getElem_cons_succ, List.getElem_cons_zero, List.setIfInBounds_toArray, List.set_cons_zero, List.set_cons_succ]
    refine (show ∀ n, wpAnyV _ _ _ _ _ _ n _ _ _ from fun n => p_done (by kernel_rfl) (fun W1 H => ?_) n) _
    go_wp2
    go_ret2
    rw [Hu.out]
    exact ⟨rfl, H.old⟩
  · obtain ⟨k, rfl⟩ : ∃ k, m = k + 16 := ⟨m - 16, by omega⟩
    obtain ⟨ad, hE, had, _⟩ := ht.cell (k := 0) (by omega)
    subst hE
    clear had
    obtain ⟨md, Hmd⟩ : ∃ l, Hd (sealed.take k = l) := ⟨_, ⟨rfl⟩⟩
    obtain ⟨dr, Hdr⟩ : ∃ l, Hd (sealed.drop k = l) := ⟨_, ⟨rfl⟩⟩
    obtain ⟨tg, Htg⟩ : ∃ t, Hd (Cha.tag key nonce aside md = t) := ⟨_, ⟨rfl⟩⟩
    have Htgl := hd (show tg.length = 16 by rw [← Htg.out]; exact Cha.tag_len _ _ _ _)
    obtain ⟨cr, Hcr⟩ : ∃ t, Hd (Cha.stream key 1 nonce md = t) := ⟨_, ⟨rfl⟩⟩
    have Hu := hd (show Cha.unlock key nonce aside sealed = if tg = dr then some cr else none by
      unfold Cha.unlock
      rw [Lt.out, if_neg hsh, show k + 16 - 16 = k by omega, Hmd.out, Hdr.out, Htg.out, Hcr.out])
    have e1 : ((k + 16 : Nat) : Int) - 16 = (k : Int) := by omega
    have e2 : IntKind.i64.wrap (k : Int) = (k : Int) := IntWalk.i64_in _ (by omega)
    have h0 : decide ((k : Int) < 0) = false := by rw [decide_eq_false_iff_not]; omega
    have h0 := hd h0
    go_enter Tryd.func40, Tryd.ntmps40
    go_wp2
    refine p_start (Cha.Oc w key nonce D p aside (some ad) (k + 16) sealed) (by kernel_rfl) H0.drew ?_
    clear H0
    refine p_take 0 (o := _) rfl (by kernel_rfl) (by kernel_rfl) (by kernel_rfl) (wanted_plain rfl) (.int .i64 (k : Int)) (fun _ _ _ h => h) (fun W hW => run_move (by rfl) (by simp [Act.eval]) W) ?_
    simp only [Act.put, List.getElem_toArray, List.getElem_cons_succ, List.getElem_cons_zero, List.setIfInBounds_toArray, List.set_cons_zero, List.set_cons_succ]
    refine p_take 1 (o := _) rfl (by kernel_rfl) (by kernel_rfl) (by kernel_rfl) (wanted_plain rfl) (.bool false) (fun _ _ _ h => h) (fun W hW => run_lss_int (by rfl) (k : Int) 0 (by simp [Act.eval]) (by simp [Act.eval]) false h0.out) ?_
    simp only [Act.put, List.getElem_toArray, List.getElem_cons_succ, List.getElem_cons_zero, List.setIfInBounds_toArray, List.set_cons_zero, List.set_cons_succ]
    refine p_take 2 (o := _) rfl (by kernel_rfl) (by kernel_rfl) (by kernel_rfl) (wanted_plain rfl) (.bool false) (fun _ _ _ h => h) (fun W hW => run_move (by rfl) (by simp [Act.eval]) W) ?_
    simp only [Act.put, List.getElem_toArray, List.getElem_cons_succ, List.getElem_cons_zero, List.setIfInBounds_toArray, List.set_cons_zero, List.set_cons_succ]
    refine p_take 3 (o := _) rfl (by kernel_rfl) (by kernel_rfl) (by kernel_rfl) (by simp [Region.wanted, yielded]) (.agg (arr key)) (fun _ _ _ h => h) (fun W hW => run_load_arr (by rfl) (by simp [Act.eval]) Cha.ty32 key HK.out hW.bk.cells_arr) ?_
    simp only [Act.put, List.getElem_toArray, List.getElem_cons_succ, List.getElem_cons_zero, List.setIfInBounds_toArray, List.set_cons_zero, List.set_cons_succ]
    refine p_take 4 (o := _) rfl (by kernel_rfl) (by kernel_rfl) (by kernel_rfl) (by simp [Region.wanted, yielded]) (.agg (arr nonce)) (fun _ _ _ h => h) (fun W hW => run_load_arr (by rfl) (by simp [Act.eval]) Cha.ty12 nonce HN.out hW.bn.cells_arr) ?_
    simp only [Act.put, List.getElem_toArray, List.getElem_cons_succ, List.getElem_cons_zero, List.setIfInBounds_toArray, List.set_cons_zero, List.set_cons_succ]
    refine p_take 5 (o := _) rfl (by kernel_rfl) (by kernel_rfl) (by kernel_rfl) (by simp [Region.wanted, yielded]) (.slice D p q) (fun _ _ _ h => h) (fun W hW => run_move (by rfl) (by simp [Act.eval]) W) ?_
    simp only [Act.put, List.getElem_toArray, List.getElem_cons_succ, List.getElem_cons_zero, List.setIfInBounds_toArray, List.set_cons_zero, List.set_cons_succ]
    refine p_take 6 (o := _) rfl (by kernel_rfl) (by kernel_rfl) (by kernel_rfl) (by simp [Region.wanted, yielded]) (.slice (some ad) (k + 16) d) (fun _ _ _ h => h) (fun W hW => run_move (by rfl) (by simp [Act.eval]) W) ?_
    simp only [Act.put, List.getElem_toArray, List.getElem_cons_succ, List.getElem_cons_zero, List.setIfInBounds_toArray, List.set_cons_zero, List.set_cons_succ]
    refine p_take 7 (o := _) rfl (by kernel_rfl) (by kernel_rfl) (by kernel_rfl) (by simp [Region.wanted, yielded]) (.int .i64 (k : Int)) (fun _ _ _ h => h) (fun W hW => run_move (by rfl) (by simp [Act.eval]) W) ?_
    simp only [Act.put, List.getElem_toArray, List.getElem_cons_succ, List.getElem_cons_zero, List.setIfInBounds_toArray, List.set_cons_zero, List.set_cons_succ]
    refine p_take 8 (o := _) rfl (by kernel_rfl) (by kernel_rfl) (by kernel_rfl) (by simp [Region.wanted, yielded]) (.slice (some ad) k d) (fun _ _ _ h => h) (fun W hW => run_slice_to (by rfl) Tryd.underlying30 u8_one (some ad) (k + 16) d k (by simp [Act.eval]) (by simp [Act.eval]) (by omega)) ?_
    simp only [Act.put, List.getElem_toArray, List.getElem_cons_succ, List.getElem_cons_zero, List.setIfInBounds_toArray, List.set_cons_zero, List.set_cons_succ]
    refine p_take 10 (o := _) rfl (by kernel_rfl) (by kernel_rfl) (by kernel_rfl) (by simp [Region.wanted, yielded]) (.slice (some ad) (k + 16) d) (fun _ _ _ h => h) (fun W hW => run_move (by rfl) (by simp [Act.eval]) W) ?_
    simp only [Act.put, List.getElem_toArray, List.getElem_cons_succ, List.getElem_cons_zero, List.setIfInBounds_toArray, List.set_cons_zero, List.set_cons_succ]
    refine p_take 11 (o := _) rfl (by kernel_rfl) (by kernel_rfl) (by kernel_rfl) (by simp [Region.wanted, yielded]) (.int .i64 (k : Int)) (fun _ _ _ h => h) (fun W hW => run_move (by rfl) (by simp [Act.eval]) W) ?_
    simp only [Act.put, List.getElem_toArray, List.getElem_cons_succ, List.getElem_cons_zero, List.setIfInBounds_toArray, List.set_cons_zero, List.set_cons_succ]
    refine p_take 12 (o := _) rfl (by kernel_rfl) (by kernel_rfl) (by kernel_rfl) (by simp [Region.wanted, yielded]) (.slice (some (ad.add k)) 16 (d - k)) (fun _ _ _ h => h) (fun W hW => run_slice_lo (by rfl) Tryd.underlying30 u8_one ad (k + 16) d k 16 (by simp [Act.eval]) (by simp [Act.eval]) (by omega) (by omega)) ?_
    simp only [Act.put, List.getElem_toArray, List.getElem_cons_succ, List.getElem_cons_zero, List.setIfInBounds_toArray, List.set_cons_zero, List.set_cons_succ]
    refine p_one 9 (by kernel_rfl) (fun W hW _ => ?_)
    refine op_call (o := _) rfl (by simp [Region.wanted, yielded]) 53 _ _ rfl #[.agg (arr key), .agg (arr nonce), .slice D p q, .slice (some ad) k d] (by simp [Act.eval]) (Cha.enter_tag _) ?_
    refine (Cha.tag_any key nonce HK.out HN.out D p q aside (some ad) k d md W hW.ra (by rw [← Hmd.out]; exact hW.rt.take (by omega)) (by omega)).mono ?_
    rintro e W5 ⟨y, rfl, by5, hy, hE⟩
    rw [Htg.out] at by5
    refine ⟨_, rfl, Next.mk (fun W => Cha.Oc w key nonce D p aside (some ad) (k + 16) sealed W ∧ Blk W y 87 (arr tg)) (fun _ => True) (fun _ h => h.1) ⟨hW.next hE, by5⟩ trivial ?_⟩
    clear hE hW by5 hy
    simp only [Act.put, List.getElem_toArray, List.getElem_cons_succ, List.getElem_cons_zero, List.setIfInBounds_toArray, List.set_cons_zero, List.set_cons_succ]
    refine p_one 13 (by kernel_rfl) (fun W hW _ => ?_)
    refine op_call (o := _) rfl (by simp [Region.wanted, yielded]) 49 _ _ rfl #[.slice (some ⟨y, 0, none⟩) 16 16, .slice (some (ad.add k)) 16 (d - k)] (by simp [Act.eval]) (enter_same _) ?_
    have hdr : ReadsB W W.heap.size (some (ad.add k)) 16 dr := by
      have h := hW.1.rt.drop (k := k) (c := d) (by omega) (by omega)
      rw [if_neg (by omega), Hdr.out, show k + 16 - k = 16 by omega] at h
      exact h
    refine (same_any (some ⟨y, 0, none⟩) 16 16 tg (some (ad.add k)) 16 (d - k) dr W (Cha.blk_reads hW.2 Htgl.out hW.2.lt) hdr (by omega) (by omega)).mono ?_
    rintro e W6 ⟨rfl, hE⟩
    refine ⟨_, rfl, Next.mk (fun W => Cha.Oc w key nonce D p aside (some ad) (k + 16) sealed W ∧ Blk W y 87 (arr tg)) (fun _ => True) (fun _ h => h) ⟨hW.1.next hE, hW.2.below hE hW.2.lt⟩ trivial ?_⟩
    clear hE hW hdr
    simp only [Act.put, List.getElem_toArray, List.getElem_cons_succ, List.getElem_cons_zero, List.setIfInBounds_toArray, List.set_cons_zero, List.set_cons_succ]
    by_cases hq : tg = dr
    · have Heq := hd hq
      rw [decide_eq_true hq]
      clear hq
      refine p_take 14 (o := _) rfl (by kernel_rfl) (by kernel_rfl) (by kernel_rfl) (by simp [Region.wanted, yielded]) (.bool false) (fun _ _ _ h => h) (fun W hW => run_notB (b := true) (by rfl) (by simp [Act.eval])) ?_
      simp only [Act.put, List.getElem_toArray, List.getElem_cons_succ, List.getElem_cons_zero, List.setIfInBounds_toArray, List.set_cons_zero, List.set_cons_succ]
      refine p_take 15 (o := _) rfl (by kernel_rfl) (by kernel_rfl) (by kernel_rfl) (wanted_plain rfl) (.bool false) (fun _ _ _ h => h) (fun W hW => run_pick (b := false) (by rfl) (by simp [Act.eval]) (by simp [Act.eval]) W) ?_
      simp only [Act.put, List.getElem_toArray, List.getElem_cons_succ, List.getElem_cons_zero, List.setIfInBounds_toArray, List.set_cons_zero, List.set_cons_succ]
      refine (show ∀ n, wpAnyV _ _ _ _ _ _ n _ _ _ from fun n => p_done (by kernel_rfl) (fun W1 H => ?_) n) _
      go_wp2
      refine p_start (Cha.Oc w key nonce D p aside (some ad) (k + 16) sealed) (by kernel_rfl) H.1.drew ?_
      clear H
      refine p_take 0 (o := _) rfl (by kernel_rfl) (by kernel_rfl) (by kernel_rfl) (wanted_plain rfl) (.agg (arr key)) (fun _ _ _ h => h) (fun W hW => run_load_arr (by rfl) (by simp [Act.eval]) Cha.ty32 key HK.out hW.bk.cells_arr) ?_
      simp only [Act.put, List.getElem_toArray, List.getElem_cons_succ, List.getElem_cons_zero, List.setIfInBounds_toArray, List.set_cons_zero, List.set_cons_succ]
      refine p_take 1 (o := _) rfl (by kernel_rfl) (by kernel_rfl) (by kernel_rfl) (wanted_plain rfl) (.agg (arr nonce)) (fun _ _ _ h => h) (fun W hW => run_load_arr (by rfl) (by simp [Act.eval]) Cha.ty12 nonce HN.out hW.bn.cells_arr) ?_
      simp only [Act.put, List.getElem_toArray, List.getElem_cons_succ, List.getElem_cons_zero, List.setIfInBounds_toArray, List.set_cons_zero, List.set_cons_succ]
      refine p_take 2 (o := _) rfl (by kernel_rfl) (by kernel_rfl) (by kernel_rfl) (wanted_plain rfl) (.slice (some ad) (k + 16) d) (fun _ _ _ h => h) (fun W hW => run_move (by rfl) (by simp [Act.eval]) W) ?_
      simp only [Act.put, List.getElem_toArray, List.getElem_cons_succ, List.getElem_cons_zero, List.setIfInBounds_toArray, List.set_cons_zero, List.set_cons_succ]
      refine p_take 3 (o := _) rfl (by kernel_rfl) (by kernel_rfl) (by kernel_rfl) (wanted_plain rfl) (.int .i64 (k : Int)) (fun _ _ _ h => h) (fun W hW => run_move (by rfl) (by simp [Act.eval]) W) ?_
      simp only [Act.put, List.getElem_toArray, List.getElem_cons_succ, List.getElem_cons_zero, List.setIfInBounds_toArray, List.set_cons_zero, List.set_cons_succ]
      refine p_take 4 (o := _) rfl (by kernel_rfl) (by kernel_rfl) (by kernel_rfl) (wanted_plain rfl) (.slice (some ad) k d) (fun _ _ _ h => h) (fun W hW => run_slice_to (by rfl) Tryd.underlying30 u8_one (some ad) (k + 16) d k (by simp [Act.eval]) (by simp [Act.eval]) (by omega)) ?_
      simp only [Act.put, List.getElem_toArray, List.getElem_cons_succ, List.getElem_cons_zero, List.setIfInBounds_toArray, List.set_cons_zero, List.set_cons_succ]
      refine p_one 5 (by kernel_rfl) (fun W hW _ => ?_)
      refine op_call (o := _) rfl (wanted_plain rfl) 52 _ _ rfl #[.agg (arr key), .int .u32 1, .agg (arr nonce), .slice (some ad) k d] (by simp [Act.eval]) (Cha.enter_stream _) ?_
      refine (Cha.stream_any key nonce 1 HK.out HN.out (some ad) k d md W (by rw [← Hmd.out]; exact hW.rt.take (by omega)) (by omega)).mono ?_
      rintro e W8 ⟨v8, rfl, own8, hE⟩
      rw [Hcr.out] at own8
      have own8 := own8.low (B' := w.heap.size) hW.old.size
      refine ⟨_, rfl, Next.mk (fun W => Cha.Oc w key nonce D p aside (some ad) (k + 16) sealed W ∧ OwnB W w.heap.size v8 cr) (fun _ => True) (fun _ h => h.1) ⟨hW.next hE, own8⟩ trivial ?_⟩
      clear hE hW own8
      simp only [Act.put, List.getElem_toArray, List.getElem_cons_succ, List.getElem_cons_zero, List.setIfInBounds_toArray, List.set_cons_zero, List.set_cons_succ]
      refine p_take 6 (o := _) rfl (by kernel_rfl) (by kernel_rfl) (by kernel_rfl) (wanted_plain rfl) (v8) (fun _ _ _ h => h) (fun W hW => run_assign (by rfl) (by simp [Act.eval]) W) ?_
      simp only [Act.put, List.getElem_toArray, List.getElem_cons_succ, List.getElem_cons_zero, List.setIfInBounds_toArray, List.set_cons_zero, List.set_cons_succ]
      refine p_take 7 (o := _) rfl (by kernel_rfl) (by kernel_rfl) (by kernel_rfl) (wanted_plain rfl) (.int .i64 0) (fun _ _ _ h => h) (fun W hW => run_assign (by rfl) (by simp [Act.eval]) W) ?_
      simp only [Act.put, List.getElem_toArray, List.getElem_cons_succ, List.getElem_cons_zero, List.setIfInBounds_toArray, List.set_cons_zero, List.set_cons_succ]
      refine (show ∀ n, wpAnyV _ _ _ _ _ _ n _ _ _ from fun n => p_done (by kernel_rfl) (fun W1 H => ?_) n) _
      go_wp2
      go_ret2
      rw [Hu.out, if_pos Heq.out]
      exact ⟨v8, rfl, H.2, H.1.old⟩
    · have Hne := hd hq
      rw [decide_eq_false hq]
      clear hq
      refine p_take 14 (o := _) rfl (by kernel_rfl) (by kernel_rfl) (by kernel_rfl) (by simp [Region.wanted, yielded]) (.bool true) (fun _ _ _ h => h) (fun W hW => run_notB (b := false) (by rfl) (by simp [Act.eval])) ?_
      simp only [Act.put, List.getElem_toArray, List.getElem_cons_succ, List.getElem_cons_zero, List.setIfInBounds_toArray, List.set_cons_zero, List.set_cons_succ]
      refine p_take 15 (o := _) rfl (by kernel_rfl) (by kernel_rfl) (by kernel_rfl) (wanted_plain rfl) (.bool true) (fun _ _ _ h => h) (fun W hW => run_pick (b := false) (by rfl) (by simp [Act.eval]) (by simp [Act.eval]) W) ?_
      simp only [Act.put, List.getElem_toArray, List.getElem_cons_succ, List.getElem_cons_zero, List.setIfInBounds_toArray, List.set_cons_zero, List.set_cons_succ]
      refine (show ∀ n, wpAnyV _ _ _ _ _ _ n _ _ _ from fun n => p_done (by kernel_rfl) (fun W1 H => ?_) n) _
      go_wp2
      go_ret2
      rw [Hu.out, if_neg Hne.out]
      exact ⟨rfl, H.1.old⟩
end Go.Proofs.YthigbggacgiamaaDoor
