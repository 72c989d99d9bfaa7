/-
  The walk of the reference's Open.
-/
import Derived.Test.YtbcboldepghgpaaOpenA
import Derived.Test.YtbcboldepghgpaaRefGt
set_option linter.unusedVariables false
set_option linter.unusedSimpArgs false
set_option maxRecDepth 100000
namespace Go.Proofs.Ytbcboldepghgpaa
open Go.RowKit
theorem run_neqStr {P : Program} {w : World} {o : Oper} {ρ : Operand → Value} {x y : Operand} {t rt : TypeId} (ho : o.op = .binOp .neq t x y rt) (l m : List UInt8) (hx : ρ x = .string (str l)) (hy : ρ y = .string (str m)) (b : Bool) (hb : decide (l = m) = b) :
    (execOp ρ o).run P w = .ok (.value (.bool (!b))) w := by
  have e : ((str l).toList == (str m).toList) = decide (l = m) := by
    rw [str, str, ByteArray.toList_mk, ByteArray.toList_mk, Bool.eq_iff_iff, beq_iff_eq, decide_eq_true_eq]
  have h : ∀ w, (binOp .neq t (.string (str l)) (.string (str m))).run P w = .ok (.bool (!b)) w := fun w => by
    show (Op.stringOp .neq (str l) (str m)).run P w = _
    simp [Op.stringOp, bne, e, hb]
  unfold execOp
  simp only [ho, hx, hy, Sem.run_bind, h, Result.andThen_ok]
  rfl
theorem run_lenB {P : Program} {w : World} {o : Oper} {ρ : Operand → Value} {x : Operand} {t : TypeId} (ho : o.op = .call { callee := .builtin .len, args := #[x], argTypes := #[t] }) {a : Option Addr} {n c : Nat} (hx : ρ x = .slice a n c) (ht : ∃ e, P.underlying t = some (.slice e)) :
    (execOp ρ o).run P w = .ok (.value (.int .i64 (n : Int))) w := by
  obtain ⟨e, he⟩ := ht
  unfold execOp
  simp only [ho, resolve, invoke, builtin, Sem.run_bind, Sem.run_pure, Result.andThen_ok, List.map_toArray, List.map_cons, List.map_nil, hx]
  simp [go_sem, he]
theorem run_subI {P : Program} {w : World} {o : Oper} {ρ : Operand → Value} {x y : Operand} {t rt : TypeId} (ho : o.op = .binOp .sub t x y rt) (i j k : Int) (hx : ρ x = .int .i64 i) (hy : ρ y = .int .i64 j) (hk : IntKind.i64.wrap (i - j) = k) : (execOp ρ o).run P w = .ok (.value (.int .i64 k)) w := by
  subst hk
  unfold execOp
  simp only [ho, hx, hy]
  simp [go_sem]
theorem enter_rtag (args : Array Value) (w : World) : (callFunc 51 args).run Try.prog w = .ok (.enter 51 args) w := by kernel_rfl
theorem run_load_n12 {P : Program} {w : World} {o : Oper} {ρ : Operand → Value} {ty : TypeId} {x : Operand} (ho : o.op = .load ty x) {ad : Addr} (hx : ρ x = .pointer (some ad)) {n : Nat} (ht : AggT P ty n) (l : List UInt8) (hl : l.length = n) (hc : Cells w ad (l.map U8)) :
    (execOp ρ o).run P w = .ok (.value (.agg (arr l))) w := run_load_arr ho hx ht l hl hc
set_option maxHeartbeats 2000000 in
set_option maxRecDepth 100000 in
theorem ropen_refused (A : Option Addr) (n c : Nat) (nonce : List UInt8) (X Y : Value) (w : World) (h16 : n ≠ 16) (h32 : n ≠ 32) :
    Calls Try.prog 33 #[.slice A n c, .agg (arr nonce), X, Y] w fun e w' => e = .returned (.tuple #[.slice none 0 0, .int .i64 1]) ∧ Below w.heap.size w w' := by
  have hB1 := (Below.refl w.heap.size w).alloc (Nat.le_refl _) (.cells (arr nonce) 25)
  go_enter Try.func33, Try.ntmps33
  go_wp2_with (go_at_call 49; refine (ref_new_refused A n c _ h16 h32).mono ?_; rintro e w3 ⟨rfl, rfl⟩)
  go_ret2
  exact ⟨rfl, hB1⟩
set_option maxHeartbeats 4000000 in
set_option maxRecDepth 100000 in
theorem ropen_made (A : Option Addr) (n c : Nat) (key nonce : List UInt8) (hn : nonce.length = 12) (D : Option Addr) (p q : Nat) (aside : List UInt8) (E : Option Addr) (m d : Nat) (sealed : List UInt8) (w : World) (hr : ReadsB w w.heap.size A n key) (hk : n = 16 ∨ n = 32)
    (ha : ReadsB w w.heap.size D p aside) (ht : ReadsB w w.heap.size E m sealed) (hmd : m ≤ d) (hpm : p + m ≤ 140737488000000) :
    Calls Try.prog 33 #[.slice A n c, .agg (arr nonce), .slice D p q, .slice E m d] w fun e w' => Opened w (Gcm.unlock (Aes.keys key) nonce aside sealed) e w' := by
  have Hn := hd hn
  have Htl := hd ht.len
  have Hk := hd (show key.length = 16 ∨ key.length = 32 by rw [hr.len]; exact hk)
  clear hn
  have Hrs := hd (And.intro (keys_some key Hk.out).1 (keys_most key Hk.out))
  obtain ⟨rs, Hrk⟩ : ∃ rs, Hd (Aes.keys key = rs) := ⟨_, ⟨rfl⟩⟩
  rw [Hrk.out] at Hrs ⊢
  obtain ⟨f, Hf⟩ : ∃ f, Hd (Gcm.first nonce = f) := ⟨_, ⟨rfl⟩⟩
  have hB1 := (Below.refl w.heap.size w).alloc (Nat.le_refl _) (.cells (arr nonce) 25)
  have b0 : Blk (w.alloc (.cells (arr nonce) 25)) w.heap.size 25 (arr nonce) := Blk.nu rfl
  have hr1 := hr.onward hB1
  go_enter Try.func33, Try.ntmps33
  go_wp2_with fail
  refine (ref_new_made A c key n _ hr1 hk).mono ?_
  rintro e w2 ⟨g, rfl, hkey, hB2⟩
  rw [Hrk.out] at hkey
  have hB3 := hB1.trans (hB2.mono hB1.size)
  have hS : TagS w w.heap.size nonce g rs D p aside E m sealed w2 := ⟨b0.below hB2 b0.lt, hkey, ha.onward hB3, ht.onward hB3, hB3⟩
  clear b0 hr1 hB1 hB2 hr hkey hB3
  by_cases hsh : m < 16
  · have Hu := hd (show Gcm.unlock rs nonce aside sealed = none by rw [Gcm.unlock, Htl.out, if_pos hsh])
    have t1 : (m : Int) < 16 := by omega
    go_wp2
    go_ret2
    rw [Hu.out]
    exact ⟨rfl, hS.old⟩
  · obtain ⟨k, rfl⟩ : ∃ k, m = k + 16 := ⟨m - 16, by omega⟩
    obtain ⟨ad, hE, had, _⟩ := ht.cell (k := 0) (by omega)
    subst hE
    clear had
    obtain ⟨md, Hmd⟩ : ∃ l, Hd (sealed.take k = l) := ⟨_, ⟨rfl⟩⟩
    obtain ⟨dr, Hdr⟩ : ∃ l, Hd (sealed.drop k = l) := ⟨_, ⟨rfl⟩⟩
    obtain ⟨tg, Htg⟩ : ∃ t, Hd (Gcm.tag rs f aside md = t) := ⟨_, ⟨rfl⟩⟩
    have Htgl := hd (show tg.length = 16 by rw [← Htg.out]; exact Gcm.tag_len _ _ _ _)
    have Hu := hd (show Gcm.unlock rs nonce aside sealed = if tg = dr then some (Gcm.crypt rs nonce md) else none by
      rw [Gcm.unlock, Htl.out, if_neg hsh, show k + 16 - 16 = k by omega, Hmd.out, Hdr.out, Hf.out, Htg.out])
    obtain ⟨cr, Hcc⟩ : ∃ t, Hd (Gcm.crypt rs nonce md = t) := ⟨_, ⟨rfl⟩⟩
    rw [Hcc.out] at Hu
    have e1 : ((k + 16 : Nat) : Int) - 16 = (k : Int) := by omega
    have e2 : IntKind.i64.wrap (k : Int) = (k : Int) := IntWalk.i64_in _ (by omega)
    have E2 := hd (show IntKind.i64.wrap (((k + 16 : Nat) : Int) - 16) = (k : Int) by rw [e1, e2])
    have t1 : ¬ ((k + 16 : Nat) : Int) < 16 := by omega
    go_wp2_with (refine wpl_valueGd (run_slice_to rfl Try.underlying24 u8_one (some ad) (k + 16) d k rfl rfl (by omega)) rfl ?_)
    refine wp_region_held_drew (S := TagS w w.heap.size nonce g rs D p aside (some ad) (k + 16) sealed) (by kernel_rfl) (hS.next (Below.refl _ _).drew) ?_
    intro hS1
    clear hS
    refine held_take 0 (o := _) rfl (by kernel_rfl) (by kernel_rfl) (by kernel_rfl) rfl (.pointer (some ⟨g, 0, none⟩)) (fun _ _ _ h => h) (fun W hW => run_move (by rfl) (by simp [Act.eval]) W) (by assumption) ?_
    simp only [Act.put, List.getElem_toArray, List.getElem_cons_succ, List.getElem_cons_zero, List.setIfInBounds_toArray, List.set_cons_zero, List.set_cons_succ]
    refine held_take 1 (o := _) rfl (by kernel_rfl) (by kernel_rfl) (by kernel_rfl) rfl (.agg (arr nonce)) (fun _ _ _ h => h) (fun W hW => run_load_n12 (by rfl) (by simp [Act.eval]) ty12 nonce Hn.out (TagS.at_ hW).cells_arr) (by assumption) ?_
    simp only [Act.put, List.getElem_toArray, List.getElem_cons_succ, List.getElem_cons_zero, List.setIfInBounds_toArray, List.set_cons_zero, List.set_cons_succ]
    refine held_take 2 (o := _) rfl (by kernel_rfl) (by kernel_rfl) (by kernel_rfl) rfl (.slice D p q) (fun _ _ _ h => h) (fun W hW => run_move (by rfl) (by simp [Act.eval]) W) (by assumption) ?_
    simp only [Act.put, List.getElem_toArray, List.getElem_cons_succ, List.getElem_cons_zero, List.setIfInBounds_toArray, List.set_cons_zero, List.set_cons_succ]
    refine held_take 3 (o := _) rfl (by kernel_rfl) (by kernel_rfl) (by kernel_rfl) rfl (.slice (some ad) k d) (fun _ _ _ h => h) (fun W hW => run_move (by rfl) (by simp [Act.eval]) W) (by assumption) ?_
    simp only [Act.put, List.getElem_toArray, List.getElem_cons_succ, List.getElem_cons_zero, List.setIfInBounds_toArray, List.set_cons_zero, List.set_cons_succ]
    refine held_take 6 (o := _) rfl (by kernel_rfl) (by kernel_rfl) (by kernel_rfl) rfl (.slice (some ad) (k + 16) d) (fun _ _ _ h => h) (fun W hW => run_move (by rfl) (by simp [Act.eval]) W) (by assumption) ?_
    simp only [Act.put, List.getElem_toArray, List.getElem_cons_succ, List.getElem_cons_zero, List.setIfInBounds_toArray, List.set_cons_zero, List.set_cons_succ]
    refine held_take 7 (o := _) rfl (by kernel_rfl) (by kernel_rfl) (by kernel_rfl) rfl (.slice (some ad) (k + 16) d) (fun _ _ _ h => h) (fun W hW => run_move (by rfl) (by simp [Act.eval]) W) (by assumption) ?_
    simp only [Act.put, List.getElem_toArray, List.getElem_cons_succ, List.getElem_cons_zero, List.setIfInBounds_toArray, List.set_cons_zero, List.set_cons_succ]
    refine held_take 8 (o := _) rfl (by kernel_rfl) (by kernel_rfl) (by kernel_rfl) rfl (.int .i64 ((k + 16 : Nat) : Int)) (fun _ _ _ h => h) (fun W hW => run_lenB (a := some ad) (c := d) (by rfl) (by simp [Act.eval]) ⟨_, Try.underlying24⟩) (by assumption) ?_
    simp only [Act.put, List.getElem_toArray, List.getElem_cons_succ, List.getElem_cons_zero, List.setIfInBounds_toArray, List.set_cons_zero, List.set_cons_succ]
    refine held_take 9 (o := _) rfl (by kernel_rfl) (by kernel_rfl) (by kernel_rfl) rfl (.int .i64 (k : Int)) (fun _ _ _ h => h) (fun W hW => run_subI (by rfl) ((k + 16 : Nat) : Int) 16 (k : Int) (by simp [Act.eval]) (by simp [Act.eval]) E2.out) (by assumption) ?_
    simp only [Act.put, List.getElem_toArray, List.getElem_cons_succ, List.getElem_cons_zero, List.setIfInBounds_toArray, List.set_cons_zero, List.set_cons_succ]
    refine held_take 10 (o := _) rfl (by kernel_rfl) (by kernel_rfl) (by kernel_rfl) rfl (.slice (some (ad.add k)) 16 (d - k)) (fun _ _ _ h => h) (fun W hW => run_slice_lo (by rfl) Try.underlying24 u8_one ad (k + 16) d k 16 (by simp [Act.eval]) (by simp [Act.eval]) (by omega) (by omega)) (by assumption) ?_
    simp only [Act.put, List.getElem_toArray, List.getElem_cons_succ, List.getElem_cons_zero, List.setIfInBounds_toArray, List.set_cons_zero, List.set_cons_succ]
    refine held_take 11 (o := _) rfl (by kernel_rfl) (by kernel_rfl) (by kernel_rfl) rfl (.string (str dr)) (fun _ _ _ h => h) (fun W hW => run_toStr (by rfl) Try.underlying24 Try.underlying5 Try.underlying9 _ (some (ad.add k)) 16 (d - k) dr (by simp [Act.eval]) (by have h := (TagS.rt hW).drop (k := k) (c := d) (by omega) (by omega); rw [if_neg (by omega), Hdr.out, show k + 16 - k = 16 by omega] at h; exact h)) (by assumption) ?_
    simp only [Act.put, List.getElem_toArray, List.getElem_cons_succ, List.getElem_cons_zero, List.setIfInBounds_toArray, List.set_cons_zero, List.set_cons_succ]
    refine held_callG 4 (by kernel_rfl) (o := _) rfl (by simp [Region.wanted, yielded]) 51 _ _ rfl #[.pointer (some ⟨g, 0, none⟩), .agg (arr nonce), .slice D p q, .slice (some ad) k d] (by simp [Act.eval]) (enter_rtag _) ?_
    refine (rtag_any g rs Hrs.out.1 Hrs.out.2 nonce Hn.out D p q aside (some ad) k d md _ hS1.key hS1.ra (by rw [← Hmd.out]; exact hS1.rt.take (by omega)) (by omega)).mono ?_
    rintro e w5 ⟨v5, rfl, own5, hB5⟩
    rw [Hf.out, Htg.out] at own5
    obtain ⟨A5, c5, e5⟩ := own5.slice
    rw [Htgl.out] at e5
    subst e5
    have r5 := own5.reads_any.2
    refine ⟨_, rfl, hS1.next hB5, ?_⟩
    intro hS5
    clear hS1 hB5 own5
    simp only [Act.put, List.getElem_toArray, List.getElem_cons_succ, List.getElem_cons_zero, List.setIfInBounds_toArray, List.set_cons_zero, List.set_cons_succ]
    refine held_do 5 (by kernel_rfl) (o := _) rfl (by simp [Region.wanted, yielded]) (.string (str tg)) w5 (run_toStr (by rfl) Try.underlying24 Try.underlying5 Try.underlying9 _ A5 16 c5 tg (by simp [Act.eval]) r5) hS5 ?_
    intro _
    simp only [Act.put, List.getElem_toArray, List.getElem_cons_succ, List.getElem_cons_zero, List.setIfInBounds_toArray, List.set_cons_zero, List.set_cons_succ]
    by_cases hq : tg = dr
    · have Heq := hd hq
      have Hqq := hd (decide_eq_true hq)
      clear hq
      refine held_take 12 (o := _) rfl (by kernel_rfl) (by kernel_rfl) (by kernel_rfl) rfl (.bool false) (fun _ _ _ h => h) (fun W hW => run_neqStr (by rfl) tg dr (by simp [Act.eval]) (by simp [Act.eval]) true Hqq.out) (by assumption) ?_
      simp only [Act.put, List.getElem_toArray, List.getElem_cons_succ, List.getElem_cons_zero, List.setIfInBounds_toArray, List.set_cons_zero, List.set_cons_succ]
      refine wpAnyH_done (by kernel_rfl) ?_ _
      go_wp2_with (refine wpl_load_arr rfl 25 _ rfl _ rfl 12 ty12 nonce Hn.out hS5.at_.cells_arr ?_)
      refine (rstream_any g rs Hrs.out.1 Hrs.out.2 nonce Hn.out (some ad) k d md _ hS5.key (by rw [← Hmd.out]; exact hS5.rt.take (by omega)) (by omega)).mono ?_
      rintro e w8 ⟨v8, rfl, own8, hB8⟩
      rw [Hcc.out] at own8
      have hold := hS5.old.size
      have hold2 := hS5.old.trans (hB8.mono hold)
      go_wp2
      go_ret2
      rw [Hu.out, if_pos Heq.out]
      exact ⟨v8, rfl, own8.lower hold, hold2⟩
    · have Hne := hd hq
      have Hqq := hd (decide_eq_false hq)
      clear hq
      refine held_take 12 (o := _) rfl (by kernel_rfl) (by kernel_rfl) (by kernel_rfl) rfl (.bool true) (fun _ _ _ h => h) (fun W hW => run_neqStr (by rfl) tg dr (by simp [Act.eval]) (by simp [Act.eval]) false Hqq.out) (by assumption) ?_
      simp only [Act.put, List.getElem_toArray, List.getElem_cons_succ, List.getElem_cons_zero, List.setIfInBounds_toArray, List.set_cons_zero, List.set_cons_succ]
      refine wpAnyH_done (by kernel_rfl) ?_ _
      go_wp2
      go_ret2
      rw [Hu.out, if_neg Hne.out]
      exact ⟨rfl, hS5.old⟩
end Go.Proofs.Ytbcboldepghgpaa
