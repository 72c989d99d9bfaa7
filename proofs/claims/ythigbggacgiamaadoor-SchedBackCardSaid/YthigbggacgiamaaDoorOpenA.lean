/-
  The walk of gcm.Open.
-/
import Derived.Test.YthigbggacgiamaaDoorSame
import Derived.Test.YthigbggacgiamaaDoorGcmG
import Derived.Test.YthigbggacgiamaaDoorJa
set_option linter.unusedVariables false
set_option linter.unusedSimpArgs false
set_option maxRecDepth 100000
namespace Go.Proofs.YthigbggacgiamaaDoor
open Go.RowKit
theorem wpl_valueGd {P : Program} {w : World} {o : Oper} {a : Act} {Q : Exit → Act → World → Prop} {ops : Array Oper} {rest : List Oper} {v : Value} (hrun : (execOp a.eval o).run P w = .ok (.value v) w) (hw : Region.wanted o (yielded ops a.tmps) = true)
    (h : wpList P ops Q rest (a.put o.dst v) w) : wpList P ops Q (o :: rest) a w :=
  wpList_step fun K hK => by
    rw [if_pos hw]
    unfold Oper.wp
    rw [hrun]
    exact hK _ _ h
theorem held_not {P : Program} {ops : Array Oper} {Q : Exit → Act → World → Prop} {md : Region.Mode} {S : World → Prop} {o : Oper} {fuel : Nat} {listed : Array Bool} {a : Act} {w : World} (i : Nat) (hi : ops[i]? = some o) (hs : Region.noSelect ops = true) (hf : Region.free md ops listed i = true)
    (hr : (Region.ready md ops listed).contains i = true) (hw : Region.wanted o (yielded ops a.tmps) = false) (hQ : ∀ c a w, Q (.panic c) (a.put o.dst undef) w → Q (.panic c) a w) (hS : S w)
    (h : wpAnyH P md ops Q S fuel (listed.setIfInBounds i true) (a.put o.dst undef) w) : wpAnyH P md ops Q S (fuel + 1) listed a w :=
  wpAnyH_take hi hs hf hr hQ (.inr ⟨hw, rfl⟩) hS h
theorem run_slice_lo {P : Program} {w : World} {o : Oper} {ρ : Operand → Value} {t e : TypeId} {x y : Operand} (ho : o.op = .slice t x (some y) none none) (ht : P.underlying t = some (.slice e)) (hs : (P.info? e).map (·.size) = some 1) (ad : Addr) (n d k r : Nat)
    (hx : ρ x = .slice (some ad) n d) (hy : ρ y = .int .i64 (k : Int)) (hn : n = k + r) (hd : k < d) (hnd : n ≤ d := by omega) : (execOp ρ o).run P w = .ok (.value (.slice (some (ad.add k)) r (d - k))) w := by
  subst hn
  have h1 : (k : Int) ≤ ((k + r : Nat) : Int) := by omega
  have h2 : ((k + r : Nat) : Int) ≤ (d : Int) := by omega
  have h3 : (0 : Int) ≤ (k : Int) := by omega
  have h4 : ¬ d = k := by omega
  unfold execOp
  simp only [ho, hx, hy]
  simp [go_sem, Instr.sliceAt, Instr.slice, Instr.sliceBounds, Instr.sliceBound, run_underlying ht, run_sizeOf hs, hy, h1, h2, h3, hnd, asIntOf, h4]
theorem run_load_lk {w : World} {o : Oper} {ρ : Operand → Value} {x : Operand} (ho : o.op = .load 102 x) {g : Nat} {t : TypeId} {p : Value} (hx : ρ x = .pointer (some ⟨g, 0, none⟩)) (l : List UInt8) (hl : l.length = 16) (hb : Blk w g t (lkCells p l)) :
    (execOp ρ o).run Tryd.prog w = .ok (.value (.agg (lkCells p l))) w := by
  have h := run_execOp_load ho hx (run_loadVar_cells ty_lk ⟨g, 0, none⟩ (p :: l.map U8) (by simp [hl]) hb.lk_all.is)
  rw [lk_back] at h
  exact h
theorem run_lss_int {P : Program} {w : World} {o : Oper} {ρ : Operand → Value} {x y : Operand} {t rt : TypeId} (ho : o.op = .binOp .lss t x y rt) (i j : Int) (hx : ρ x = .int .i64 i) (hy : ρ y = .int .i64 j) (b : Bool) (hb : decide (i < j) = b) : (execOp ρ o).run P w = .ok (.value (.bool b)) w := by
  subst hb
  unfold execOp
  simp only [ho, hx, hy]
  simp [go_sem]
theorem run_notB {P : Program} {w : World} {o : Oper} {ρ : Operand → Value} {t : TypeId} {x : Operand} (ho : o.op = .unOp .not t x) {b : Bool} (hx : ρ x = .bool b) : (execOp ρ o).run P w = .ok (.value (.bool (!b))) w := by
  unfold execOp
  simp only [ho, hx]
  simp [go_sem]
theorem enter_ltag (args : Array Value) (w : World) : (callFunc 50 args).run Tryd.prog w = .ok (.enter 50 args) w := by kernel_rfl
theorem enter_lstream (args : Array Value) (w : World) : (callFunc 51 args).run Tryd.prog w = .ok (.enter 51 args) w := by kernel_rfl
theorem enter_same (args : Array Value) (w : World) : (callFunc 49 args).run Tryd.prog w = .ok (.enter 49 args) w := by kernel_rfl
set_option maxHeartbeats 2000000 in
set_option maxRecDepth 100000 in
theorem open_refused (A : Option Addr) (n c : Nat) (nonce : List UInt8) (hn : nonce.length = 12) (X Y : Value) (w : World) (h16 : n ≠ 16) (h32 : n ≠ 32) :
    Calls Tryd.prog 36 #[.slice A n c, .agg (arr nonce), X, Y] w fun e w' => e = .returned (.tuple #[.slice none 0 0, .int .i64 1]) ∧ Below w.heap.size w w' := by
  have Hn := hd hn
  clear hn
  obtain ⟨f, Hf⟩ : ∃ f, Hd (Gcm.first nonce = f) := ⟨_, ⟨rfl⟩⟩
  have Hfl := hd (show f.length = 16 by rw [← Hf.out]; exact Gcm.first_len _ Hn.out)
  have hB1 := (Below.refl w.heap.size w).alloc (Nat.le_refl _) (.cells (arr nonce) 27)
  have b0 : Blk (w.alloc (.cells (arr nonce) 27)) w.heap.size 27 (arr nonce) := Blk.nu rfl
  go_enter Tryd.func36, Tryd.ntmps36
  go_wp2_with (first | (refine wpl_load_arr rfl 27 _ rfl _ rfl 12 ty12 nonce Hn.out b0.cells_arr ?_) | (go_at_call 48; refine (begun_refused A n c nonce Hn.out _ h16 h32).mono ?_; rintro e w2 ⟨rfl, hB2⟩; rw [Hf.out]) | (refine wpl_alloc rfl 102 rfl _ zero_lk ?_) | (refine wpl_store_lk rfl _ _ rfl w2.heap.size (.pointer none) rfl f Hfl.out rfl rfl 102 _ (by rw [lk_size, List.length_replicate]) (Blk.nu rfl) ?_))
  have hB3 := hB1.trans (hB2.mono hB1.size)
  go_ret2
  exact ⟨rfl, below_setRow (hB3.alloc hB3.size _) hB3.size _⟩
/-- What gcm.Open's walk keeps: the key, what came in. -/
structure OpS (w : World) (z : Nat) (P : Value) (f : List UInt8) (g : Nat) (rs : List (List UInt8)) (D : Option Addr) (p : Nat) (aside : List UInt8) (E : Option Addr) (m : Nat) (sealed : List UInt8) (W : World) : Prop where
  lk : Blk W z 102 (lkCells P f)
  key : KeyAt W g rs
  ra : ReadsB W W.heap.size D p aside
  rt : ReadsB W W.heap.size E m sealed
  old : Below w.heap.size w W
section
variable {w : World} {z : Nat} {P : Value} {f : List UInt8} {g : Nat} {rs : List (List UInt8)} {D : Option Addr} {p : Nat} {aside : List UInt8} {E : Option Addr} {m : Nat} {sealed : List UInt8} {W w' : World}
theorem OpS.next (h : OpS w z P f g rs D p aside E m sealed W) (hb : Below W.heap.size W w') : OpS w z P f g rs D p aside E m sealed w' :=
  ⟨h.lk.below hb h.lk.lt, h.key.below hb, h.ra.onward hb, h.rt.onward hb, h.old.trans (hb.mono h.old.size)⟩
theorem OpS.drew (h : OpS w z P f g rs D p aside E m sealed W) : OpS w z P f g rs D p aside E m sealed W.drew := h.next (Below.refl _ _).drew
end
namespace Gcm
/-- What a text locked up is opened to. -/
def unlock (rs : List (List UInt8)) (nonce aside sealed : List UInt8) : Option (List UInt8) :=
  if sealed.length < 16 then none
  else if tag rs (first nonce) aside (sealed.take (sealed.length - 16)) = sealed.drop (sealed.length - 16) then some (crypt rs nonce (sealed.take (sealed.length - 16))) else none
end Gcm
namespace Gcm
theorem crypt_twice (rs : List (List UInt8)) (nonce l : List UInt8) : crypt rs nonce (crypt rs nonce l) = l := by
  unfold crypt
  exact Aes.stream_twice _ _ _
theorem lock_len (rs : List (List UInt8)) (nonce aside text : List UInt8) : (lock rs nonce aside text).length = text.length + 16 := by
  rw [lock, List.length_append, crypt_len, tag_len]
theorem unlock_lock (rs : List (List UInt8)) (nonce aside text : List UInt8) : unlock rs nonce aside (lock rs nonce aside text) = some text := by
  have hl := lock_len rs nonce aside text
  have e : (lock rs nonce aside text).length - 16 = (crypt rs nonce text).length := by rw [hl, crypt_len]; omega
  rw [unlock, if_neg (by omega), e, lock, List.take_left', List.drop_left', if_pos rfl, crypt_twice]
  · rfl
  · rfl
theorem lock_unlock (rs : List (List UInt8)) (nonce aside sealed text : List UInt8) (h : unlock rs nonce aside sealed = some text) : lock rs nonce aside text = sealed := by
  rw [unlock] at h
  split at h
  · cases h
  · split at h
    · rename_i hq
      injection h with h
      subst h
      rw [lock, crypt_twice, hq, List.take_append_drop]
    · cases h
end Gcm
/-- A slice and an error: of what was opened, or of a refusal. -/
def Opened (w : World) (r : Option (List UInt8)) (e : Ending) (w' : World) : Prop := match r with
  | some l => ∃ v, e = .returned (.tuple #[v, .int .i64 0]) ∧ OwnB w' w.heap.size v l ∧ Below w.heap.size w w'
  | none => e = .returned (.tuple #[.slice none 0 0, .int .i64 81]) ∧ Below w.heap.size w w'
set_option maxHeartbeats 4000000 in
set_option maxRecDepth 100000 in
theorem open_made (A : Option Addr) (n c : Nat) (key nonce : List UInt8) (hn : nonce.length = 12) (D : Option Addr) (p q : Nat) (aside : List UInt8) (E : Option Addr) (m d : Nat) (sealed : List UInt8) (w : World) (hr : ReadsB w w.heap.size A n key) (hk : n = 16 ∨ n = 32)
    (ha : ReadsB w w.heap.size D p aside) (hpq : p ≤ q) (hp : p ≤ 140737488355328) (ht : ReadsB w w.heap.size E m sealed) (hmd : m ≤ d) (hm : m ≤ 140737488355312) :
    Calls Tryd.prog 36 #[.slice A n c, .agg (arr nonce), .slice D p q, .slice E m d] w fun e w' => Opened w (Gcm.unlock (Aes.keys key) nonce aside sealed) e w' := by
  have Hn := hd hn
  have Htl := hd ht.len
  have Hk := hd (show key.length = 16 ∨ key.length = 32 by rw [hr.len]; exact hk)
  clear hn
  have Hrs := hd (keys_some key Hk.out)
  obtain ⟨rs, Hrk⟩ : ∃ rs, Hd (Aes.keys key = rs) := ⟨_, ⟨rfl⟩⟩
  rw [Hrk.out] at Hrs ⊢
  obtain ⟨f, Hf⟩ : ∃ f, Hd (Gcm.first nonce = f) := ⟨_, ⟨rfl⟩⟩
  have Hfl := hd (show f.length = 16 by rw [← Hf.out]; exact Gcm.first_len _ Hn.out)
  have hB1 := (Below.refl w.heap.size w).alloc (Nat.le_refl _) (.cells (arr nonce) 27)
  have b0 : Blk (w.alloc (.cells (arr nonce) 27)) w.heap.size 27 (arr nonce) := Blk.nu rfl
  have hr1 := hr.onward hB1
  go_enter Tryd.func36, Tryd.ntmps36
  go_wp2_with (refine wpl_load_arr rfl 27 _ rfl _ rfl 12 ty12 nonce Hn.out b0.cells_arr ?_)
  refine (begun_made A n c key nonce Hn.out _ hr1 hk).mono ?_
  rintro e w2 ⟨g, rfl, hkey, hB2⟩
  rw [Hrk.out] at hkey
  rw [Hf.out]
  obtain ⟨P, HP⟩ : ∃ P : Value, Hd (Value.pointer (some ⟨g, 0, none⟩) = P) := ⟨_, ⟨rfl⟩⟩
  have hP2 : P.oneCell' = true := by rw [← HP.out]; rfl
  rw [HP.out]
  have hB2' := hB1.trans (hB2.mono hB1.size)
  have bel2 := below_setRow ((Below.refl w2.heap.size w2).alloc (Nat.le_refl _) (.cells (lkCells (.pointer none) (List.replicate 16 0)) 102)) (Nat.le_refl _) (lkCells P f)
  have hS0 : OpS w w2.heap.size P f g rs D p aside E m sealed ((w2.alloc (.cells (lkCells (.pointer none) (List.replicate 16 0)) 102)).setRow w2.heap.size (lkCells P f)) := by
    have hB3 := hB2'.trans (bel2.mono hB2'.size)
    exact ⟨(Blk.nu rfl).setRow _, hkey.below bel2, ha.onward hB3, ht.onward hB3, hB3⟩
  clear b0 hr1 hB1 hB2 hr bel2 hkey hB2'
  by_cases hsh : m < 16
  · have Hu := hd (show Gcm.unlock rs nonce aside sealed = none by rw [Gcm.unlock, Htl.out, if_pos hsh])
    obtain ⟨i, Hi⟩ : ∃ i : Int, Hd ((m : Int) - 16 = i) := ⟨_, ⟨rfl⟩⟩
    have e1 := Hi.out
    have e2 : IntKind.i64.wrap i = i := IntWalk.i64_in _ (by have := Hi.out; omega)
    have hneg : decide (i < 0) = true := by rw [decide_eq_true_iff]; omega
    go_wp2_with (first | (refine wpl_alloc rfl 102 rfl _ zero_lk ?_) | ((refine wpl_store_lk rfl _ _ rfl w2.heap.size P hP2 f Hfl.out rfl rfl 102 _ (by rw [lk_size, List.length_replicate]) (Blk.nu rfl) ?_); refine wpl_name (fun wo => OpS w w2.heap.size P f g rs D p aside E m sealed wo) hS0 ?_; clear hS0; rintro wo hS))
    obtain ⟨z, Hz⟩ : ∃ z, Hd (w2.heap.size = z) := ⟨_, ⟨rfl⟩⟩
    rw [Hz.out] at hS ⊢
    refine wp_region_held_drew (S := OpS w z P f g rs D p aside E m sealed) (by kernel_rfl) hS.drew ?_
    intro hS1
    refine held_take 0 (o := _) rfl (by kernel_rfl) (by kernel_rfl) (by kernel_rfl) rfl (.int .i64 i) (fun _ _ _ h => h) (fun W hW => run_move (by rfl) (by simp [Act.eval]) W) (by assumption) ?_
    simp only [Act.put, List.getElem_toArray, List.getElem_cons_succ, List.getElem_cons_zero, List.setIfInBounds_toArray, List.set_cons_zero, List.set_cons_succ]
    refine held_take 1 (o := _) rfl (by kernel_rfl) (by kernel_rfl) (by kernel_rfl) rfl (.bool true) (fun _ _ _ h => h) (fun W hW => run_lss_int (by rfl) i 0 (by simp [Act.eval]) (by simp [Act.eval]) true hneg) (by assumption) ?_
    simp only [Act.put, List.getElem_toArray, List.getElem_cons_succ, List.getElem_cons_zero, List.setIfInBounds_toArray, List.set_cons_zero, List.set_cons_succ]
    refine held_take 2 (o := _) rfl (by kernel_rfl) (by kernel_rfl) (by kernel_rfl) rfl (.bool true) (fun _ _ _ h => h) (fun W hW => run_move (by rfl) (by simp [Act.eval]) W) (by assumption) ?_
    simp only [Act.put, List.getElem_toArray, List.getElem_cons_succ, List.getElem_cons_zero, List.setIfInBounds_toArray, List.set_cons_zero, List.set_cons_succ]
    refine held_not 3 (o := _) rfl (by kernel_rfl) (by kernel_rfl) (by kernel_rfl) (by simp [Region.wanted, yielded]) (fun _ _ _ h => h) (by assumption) ?_
    simp only [Act.put, List.getElem_toArray, List.getElem_cons_succ, List.getElem_cons_zero, List.setIfInBounds_toArray, List.set_cons_zero, List.set_cons_succ]
    refine held_not 4 (o := _) rfl (by kernel_rfl) (by kernel_rfl) (by kernel_rfl) (by simp [Region.wanted, yielded]) (fun _ _ _ h => h) (by assumption) ?_
    simp only [Act.put, List.getElem_toArray, List.getElem_cons_succ, List.getElem_cons_zero, List.setIfInBounds_toArray, List.set_cons_zero, List.set_cons_succ]
    refine held_not 5 (o := _) rfl (by kernel_rfl) (by kernel_rfl) (by kernel_rfl) (by simp [Region.wanted, yielded]) (fun _ _ _ h => h) (by assumption) ?_
    simp only [Act.put, List.getElem_toArray, List.getElem_cons_succ, List.getElem_cons_zero, List.setIfInBounds_toArray, List.set_cons_zero, List.set_cons_succ]
    refine held_not 6 (o := _) rfl (by kernel_rfl) (by kernel_rfl) (by kernel_rfl) (by simp [Region.wanted, yielded]) (fun _ _ _ h => h) (by assumption) ?_
    simp only [Act.put, List.getElem_toArray, List.getElem_cons_succ, List.getElem_cons_zero, List.setIfInBounds_toArray, List.set_cons_zero, List.set_cons_succ]
    refine held_not 7 (o := _) rfl (by kernel_rfl) (by kernel_rfl) (by kernel_rfl) (by simp [Region.wanted, yielded]) (fun _ _ _ h => h) (by assumption) ?_
    simp only [Act.put, List.getElem_toArray, List.getElem_cons_succ, List.getElem_cons_zero, List.setIfInBounds_toArray, List.set_cons_zero, List.set_cons_succ]
    refine held_not 8 (o := _) rfl (by kernel_rfl) (by kernel_rfl) (by kernel_rfl) (by simp [Region.wanted, yielded]) (fun _ _ _ h => h) (by assumption) ?_
    simp only [Act.put, List.getElem_toArray, List.getElem_cons_succ, List.getElem_cons_zero, List.setIfInBounds_toArray, List.set_cons_zero, List.set_cons_succ]
    refine held_not 9 (o := _) rfl (by kernel_rfl) (by kernel_rfl) (by kernel_rfl) (by simp [Region.wanted, yielded]) (fun _ _ _ h => h) (by assumption) ?_
    simp only [Act.put, List.getElem_toArray, List.getElem_cons_succ, List.getElem_cons_zero, List.setIfInBounds_toArray, List.set_cons_zero, List.set_cons_succ]
    refine held_not 10 (o := _) rfl (by kernel_rfl) (by kernel_rfl) (by kernel_rfl) (by simp [Region.wanted, yielded]) (fun _ _ _ h => h) (by assumption) ?_
    simp only [Act.put, List.getElem_toArray, List.getElem_cons_succ, List.getElem_cons_zero, List.setIfInBounds_toArray, List.set_cons_zero, List.set_cons_succ]
    refine held_not 11 (o := _) rfl (by kernel_rfl) (by kernel_rfl) (by kernel_rfl) (by simp [Region.wanted, yielded]) (fun _ _ _ h => h) (by assumption) ?_
    simp only [Act.put, List.getElem_toArray, List.getElem_cons_succ, List.getElem_cons_zero, List.setIfInBounds_toArray, List.set_cons_zero, List.set_cons_succ]
    refine held_not 12 (o := _) rfl (by kernel_rfl) (by kernel_rfl) (by kernel_rfl) (by simp [Region.wanted, yielded]) (fun _ _ _ h => h) (by assumption) ?_
    simp only [Act.put, List.getElem_toArray, List.getElem_cons_succ, List.getElem_cons_zero, List.setIfInBounds_toArray, List.set_cons_zero, List.set_cons_succ]
    refine held_not 13 (o := _) rfl (by kernel_rfl) (by kernel_rfl) (by kernel_rfl) (by simp [Region.wanted, yielded]) (fun _ _ _ h => h) (by assumption) ?_
    simp only [Act.put, List.getElem_toArray, List.getElem_cons_succ, List.getElem_cons_zero, List.setIfInBounds_toArray, List.set_cons_zero, List.set_cons_succ]
    refine held_take 14 (o := _) rfl (by kernel_rfl) (by kernel_rfl) (by kernel_rfl) rfl (.bool true) (fun _ _ _ h => h) (fun W hW => run_pick (b := true) (by rfl) (by simp [Act.eval]) (by simp [Act.eval]) W) (by assumption) ?_
    simp only [Act.put, List.getElem_toArray, List.getElem_cons_succ, List.getElem_cons_zero, List.setIfInBounds_toArray, List.set_cons_zero, List.set_cons_succ]
    refine wpAnyH_done (by kernel_rfl) ?_ _
    go_wp2
    go_ret2
    rw [Hu.out]
    exact ⟨rfl, hS1.old⟩
  · obtain ⟨k, rfl⟩ : ∃ k, m = k + 16 := ⟨m - 16, by omega⟩
    obtain ⟨ad, hE, had, _⟩ := ht.cell (k := 0) (by omega)
    subst hE
    clear had
    obtain ⟨md, Hmd⟩ : ∃ l, Hd (sealed.take k = l) := ⟨_, ⟨rfl⟩⟩
    obtain ⟨dr, Hdr⟩ : ∃ l, Hd (sealed.drop k = l) := ⟨_, ⟨rfl⟩⟩
    obtain ⟨tg, Htg⟩ : ∃ t, Hd (Gcm.tag rs f aside md = t) := ⟨_, ⟨rfl⟩⟩
    have Htgl := hd (show tg.length = 16 by rw [← Htg.out]; exact Gcm.tag_len _ _ _ _)
    have Hu := hd (show Gcm.unlock rs nonce aside sealed = if tg = dr then some (Gcm.crypt rs nonce md) else none by
      rw [Gcm.unlock, Htl.out, if_neg hsh, show k + 16 - 16 = k by omega, Hmd.out, Hdr.out, Hf.out, Htg.out])
    have Hcr := hd (show Aes.stream rs (f.set 15 2) md = Gcm.crypt rs nonce md by rw [← Hf.out]; unfold Gcm.crypt; rfl)
    obtain ⟨cr, Hcc⟩ : ∃ t, Hd (Gcm.crypt rs nonce md = t) := ⟨_, ⟨rfl⟩⟩
    rw [Hcc.out] at Hu Hcr
    have e1 : ((k + 16 : Nat) : Int) - 16 = (k : Int) := by omega
    have e2 : IntKind.i64.wrap (k : Int) = (k : Int) := IntWalk.i64_in _ (by omega)
    have h0 : decide ((k : Int) < 0) = false := by rw [decide_eq_false_iff_not]; omega
    have H0 := hd h0
    clear h0
    go_wp2_with (first | (refine wpl_alloc rfl 102 rfl _ zero_lk ?_) | ((refine wpl_store_lk rfl _ _ rfl w2.heap.size P hP2 f Hfl.out rfl rfl 102 _ (by rw [lk_size, List.length_replicate]) (Blk.nu rfl) ?_); refine wpl_name (fun wo => OpS w w2.heap.size P f g rs D p aside (some ad) (k + 16) sealed wo) hS0 ?_; clear hS0; rintro wo hS))
    obtain ⟨z, Hz⟩ : ∃ z, Hd (w2.heap.size = z) := ⟨_, ⟨rfl⟩⟩
    rw [Hz.out] at hS ⊢
    refine wp_region_held_drew (S := OpS w z P f g rs D p aside (some ad) (k + 16) sealed) (by kernel_rfl) hS.drew ?_
    intro hS1
    refine held_take 0 (o := _) rfl (by kernel_rfl) (by kernel_rfl) (by kernel_rfl) rfl (.int .i64 (k : Int)) (fun _ _ _ h => h) (fun W hW => run_move (by rfl) (by simp [Act.eval]) W) (by assumption) ?_
    simp only [Act.put, List.getElem_toArray, List.getElem_cons_succ, List.getElem_cons_zero, List.setIfInBounds_toArray, List.set_cons_zero, List.set_cons_succ]
    refine held_take 1 (o := _) rfl (by kernel_rfl) (by kernel_rfl) (by kernel_rfl) rfl (.bool false) (fun _ _ _ h => h) (fun W hW => run_lss_int (by rfl) (k : Int) 0 (by simp [Act.eval]) (by simp [Act.eval]) false H0.out) (by assumption) ?_
    simp only [Act.put, List.getElem_toArray, List.getElem_cons_succ, List.getElem_cons_zero, List.setIfInBounds_toArray, List.set_cons_zero, List.set_cons_succ]
    refine held_take 2 (o := _) rfl (by kernel_rfl) (by kernel_rfl) (by kernel_rfl) rfl (.bool false) (fun _ _ _ h => h) (fun W hW => run_move (by rfl) (by simp [Act.eval]) W) (by assumption) ?_
    simp only [Act.put, List.getElem_toArray, List.getElem_cons_succ, List.getElem_cons_zero, List.setIfInBounds_toArray, List.set_cons_zero, List.set_cons_succ]
    refine held_takeG 3 (o := _) rfl (by kernel_rfl) (by kernel_rfl) (by kernel_rfl) (by simp [Region.wanted, yielded]) (.agg (lkCells P f)) (fun _ _ _ h => h) (fun W hW => run_load_lk (by rfl) (by simp [Act.eval]) f Hfl.out (OpS.lk hW)) (by assumption) ?_
    simp only [Act.put, List.getElem_toArray, List.getElem_cons_succ, List.getElem_cons_zero, List.setIfInBounds_toArray, List.set_cons_zero, List.set_cons_succ]
    refine held_takeG 4 (o := _) rfl (by kernel_rfl) (by kernel_rfl) (by kernel_rfl) (by simp [Region.wanted, yielded]) (.slice D p q) (fun _ _ _ h => h) (fun W hW => run_move (by rfl) (by simp [Act.eval]) W) (by assumption) ?_
    simp only [Act.put, List.getElem_toArray, List.getElem_cons_succ, List.getElem_cons_zero, List.setIfInBounds_toArray, List.set_cons_zero, List.set_cons_succ]
    refine held_takeG 5 (o := _) rfl (by kernel_rfl) (by kernel_rfl) (by kernel_rfl) (by simp [Region.wanted, yielded]) (.slice (some ad) (k + 16) d) (fun _ _ _ h => h) (fun W hW => run_move (by rfl) (by simp [Act.eval]) W) (by assumption) ?_
    simp only [Act.put, List.getElem_toArray, List.getElem_cons_succ, List.getElem_cons_zero, List.setIfInBounds_toArray, List.set_cons_zero, List.set_cons_succ]
    refine held_takeG 6 (o := _) rfl (by kernel_rfl) (by kernel_rfl) (by kernel_rfl) (by simp [Region.wanted, yielded]) (.int .i64 (k : Int)) (fun _ _ _ h => h) (fun W hW => run_move (by rfl) (by simp [Act.eval]) W) (by assumption) ?_
    simp only [Act.put, List.getElem_toArray, List.getElem_cons_succ, List.getElem_cons_zero, List.setIfInBounds_toArray, List.set_cons_zero, List.set_cons_succ]
    refine held_takeG 7 (o := _) rfl (by kernel_rfl) (by kernel_rfl) (by kernel_rfl) (by simp [Region.wanted, yielded]) (.slice (some ad) k d) (fun _ _ _ h => h) (fun W hW => run_slice_to (by rfl) Tryd.underlying30 u8_one (some ad) (k + 16) d k (by simp [Act.eval]) (by simp [Act.eval]) (by omega)) (by assumption) ?_
    simp only [Act.put, List.getElem_toArray, List.getElem_cons_succ, List.getElem_cons_zero, List.setIfInBounds_toArray, List.set_cons_zero, List.set_cons_succ]
    refine held_takeG 9 (o := _) rfl (by kernel_rfl) (by kernel_rfl) (by kernel_rfl) (by simp [Region.wanted, yielded]) (.slice (some ad) (k + 16) d) (fun _ _ _ h => h) (fun W hW => run_move (by rfl) (by simp [Act.eval]) W) (by assumption) ?_
    simp only [Act.put, List.getElem_toArray, List.getElem_cons_succ, List.getElem_cons_zero, List.setIfInBounds_toArray, List.set_cons_zero, List.set_cons_succ]
    refine held_takeG 10 (o := _) rfl (by kernel_rfl) (by kernel_rfl) (by kernel_rfl) (by simp [Region.wanted, yielded]) (.int .i64 (k : Int)) (fun _ _ _ h => h) (fun W hW => run_move (by rfl) (by simp [Act.eval]) W) (by assumption) ?_
    simp only [Act.put, List.getElem_toArray, List.getElem_cons_succ, List.getElem_cons_zero, List.setIfInBounds_toArray, List.set_cons_zero, List.set_cons_succ]
    refine held_takeG 11 (o := _) rfl (by kernel_rfl) (by kernel_rfl) (by kernel_rfl) (by simp [Region.wanted, yielded]) (.slice (some (ad.add k)) 16 (d - k)) (fun _ _ _ h => h) (fun W hW => run_slice_lo (by rfl) Tryd.underlying30 u8_one ad (k + 16) d k 16 (by simp [Act.eval]) (by simp [Act.eval]) (by omega) (by omega)) (by assumption) ?_
    simp only [Act.put, List.getElem_toArray, List.getElem_cons_succ, List.getElem_cons_zero, List.setIfInBounds_toArray, List.set_cons_zero, List.set_cons_succ]
    have eP := HP.out
    subst eP
    clear HP
    refine held_callG 8 (by kernel_rfl) (o := _) rfl (by simp [Region.wanted, yielded]) 50 _ _ rfl #[.agg (lkCells (.pointer (some ⟨g, 0, none⟩)) f), .slice D p q, .slice (some ad) k d] (by simp [Act.eval]) (enter_ltag _) ?_
    refine (ltag_any g rs Hrs.out.1 Hrs.out.2 f Hfl.out D p q aside (some ad) k d md _ hS1.key hS1.ra hpq hp (by rw [← Hmd.out]; exact hS1.rt.take (by omega)) (by omega) (by omega)).mono ?_
    rintro e w5 ⟨y, rfl, hy, by5, hB5⟩
    rw [Htg.out] at by5
    have hrt : ReadsB w5 w5.heap.size (some ⟨y, 0, none⟩) 16 tg := ⟨Htgl.out, by rw [List.length_map, Htgl.out], fun _ => ⟨_, rfl, by5.lt, by5.cells_arr.is⟩⟩
    refine ⟨_, rfl, hS1.next hB5, ?_⟩
    intro hS5
    clear hS1 hB5 by5 hy
    have hdr : ReadsB w5 w5.heap.size (some (ad.add k)) 16 dr := by
      have h := hS5.rt.drop (k := k) (c := d) (by omega) (by omega)
      rw [if_neg (by omega), Hdr.out, show k + 16 - k = 16 by omega] at h
      exact h
    simp only [Act.put, List.getElem_toArray, List.getElem_cons_succ, List.getElem_cons_zero, List.setIfInBounds_toArray, List.set_cons_zero, List.set_cons_succ]
    refine held_callG 12 (by kernel_rfl) (o := _) rfl (by simp [Region.wanted, yielded]) 49 _ _ rfl #[.slice (some ⟨y, 0, none⟩) 16 16, .slice (some (ad.add k)) 16 (d - k)] (by simp [Act.eval]) (enter_same _) ?_
    refine (same_any (some ⟨y, 0, none⟩) 16 16 tg (some (ad.add k)) 16 (d - k) dr _ hrt hdr (by omega) (by omega)).mono ?_
    rintro e w6 ⟨rfl, hB6⟩
    refine ⟨_, rfl, hS5.next hB6, ?_⟩
    intro hS6
    clear hS5 hB6 hrt hdr
    simp only [Act.put, List.getElem_toArray, List.getElem_cons_succ, List.getElem_cons_zero, List.setIfInBounds_toArray, List.set_cons_zero, List.set_cons_succ]
    by_cases hq : tg = dr
    · have Heq := hd hq
      rw [decide_eq_true hq]
      clear hq
      refine held_takeG 13 (o := _) rfl (by kernel_rfl) (by kernel_rfl) (by kernel_rfl) (by simp [Region.wanted, yielded]) (.bool false) (fun _ _ _ h => h) (fun W hW => run_notB (b := true) (by rfl) (by simp [Act.eval])) (by assumption) ?_
      simp only [Act.put, List.getElem_toArray, List.getElem_cons_succ, List.getElem_cons_zero, List.setIfInBounds_toArray, List.set_cons_zero, List.set_cons_succ]
      refine held_take 14 (o := _) rfl (by kernel_rfl) (by kernel_rfl) (by kernel_rfl) rfl (.bool false) (fun _ _ _ h => h) (fun W hW => run_pick (b := false) (by rfl) (by simp [Act.eval]) (by simp [Act.eval]) W) (by assumption) ?_
      simp only [Act.put, List.getElem_toArray, List.getElem_cons_succ, List.getElem_cons_zero, List.setIfInBounds_toArray, List.set_cons_zero, List.set_cons_succ]
      refine wpAnyH_done (by kernel_rfl) ?_ _
      go_wp2
      refine wp_region_held_drew (S := OpS w z (.pointer (some ⟨g, 0, none⟩)) f g rs D p aside (some ad) (k + 16) sealed) (by kernel_rfl) hS6.drew ?_
      intro hS7
      refine held_take 0 (o := _) rfl (by kernel_rfl) (by kernel_rfl) (by kernel_rfl) rfl (.agg (lkCells (.pointer (some ⟨g, 0, none⟩)) f)) (fun _ _ _ h => h) (fun W hW => run_load_lk (by rfl) (by simp [Act.eval]) f Hfl.out (OpS.lk hW)) (by assumption) ?_
      simp only [Act.put, List.getElem_toArray, List.getElem_cons_succ, List.getElem_cons_zero, List.setIfInBounds_toArray, List.set_cons_zero, List.set_cons_succ]
      refine held_take 1 (o := _) rfl (by kernel_rfl) (by kernel_rfl) (by kernel_rfl) rfl (.slice (some ad) (k + 16) d) (fun _ _ _ h => h) (fun W hW => run_move (by rfl) (by simp [Act.eval]) W) (by assumption) ?_
      simp only [Act.put, List.getElem_toArray, List.getElem_cons_succ, List.getElem_cons_zero, List.setIfInBounds_toArray, List.set_cons_zero, List.set_cons_succ]
      refine held_take 2 (o := _) rfl (by kernel_rfl) (by kernel_rfl) (by kernel_rfl) rfl (.int .i64 (k : Int)) (fun _ _ _ h => h) (fun W hW => run_move (by rfl) (by simp [Act.eval]) W) (by assumption) ?_
      simp only [Act.put, List.getElem_toArray, List.getElem_cons_succ, List.getElem_cons_zero, List.setIfInBounds_toArray, List.set_cons_zero, List.set_cons_succ]
      refine held_take 3 (o := _) rfl (by kernel_rfl) (by kernel_rfl) (by kernel_rfl) rfl (.slice (some ad) k d) (fun _ _ _ h => h) (fun W hW => run_slice_to (by rfl) Tryd.underlying30 u8_one (some ad) (k + 16) d k (by simp [Act.eval]) (by simp [Act.eval]) (by omega)) (by assumption) ?_
      simp only [Act.put, List.getElem_toArray, List.getElem_cons_succ, List.getElem_cons_zero, List.setIfInBounds_toArray, List.set_cons_zero, List.set_cons_succ]
      refine held_callG 4 (by kernel_rfl) (o := _) rfl (by simp [Region.wanted, yielded]) 51 _ _ rfl #[.agg (lkCells (.pointer (some ⟨g, 0, none⟩)) f), .slice (some ad) k d] (by simp [Act.eval]) (enter_lstream _) ?_
      refine (lstream_any g rs Hrs.out.1 Hrs.out.2 f Hfl.out (some ad) k d md _ hS7.key (by rw [← Hmd.out]; exact hS7.rt.take (by omega)) (by omega)).mono ?_
      rintro e w8 ⟨v8, rfl, own8, hB8⟩
      rw [Hcr.out] at own8
      have hold := hS7.old.size
      refine ⟨_, rfl, hS7.next hB8, ?_⟩
      intro hS8
      simp only [Act.put, List.getElem_toArray, List.getElem_cons_succ, List.getElem_cons_zero, List.setIfInBounds_toArray, List.set_cons_zero, List.set_cons_succ]
      refine held_take 5 (o := _) rfl (by kernel_rfl) (by kernel_rfl) (by kernel_rfl) rfl (v8) (fun _ _ _ h => h) (fun W hW => run_assign (by rfl) (by simp [Act.eval]) W) (by assumption) ?_
      simp only [Act.put, List.getElem_toArray, List.getElem_cons_succ, List.getElem_cons_zero, List.setIfInBounds_toArray, List.set_cons_zero, List.set_cons_succ]
      refine held_take 6 (o := _) rfl (by kernel_rfl) (by kernel_rfl) (by kernel_rfl) rfl (.int .i64 0) (fun _ _ _ h => h) (fun W hW => run_assign (by rfl) (by simp [Act.eval]) W) (by assumption) ?_
      simp only [Act.put, List.getElem_toArray, List.getElem_cons_succ, List.getElem_cons_zero, List.setIfInBounds_toArray, List.set_cons_zero, List.set_cons_succ]
      refine wpAnyH_done (by kernel_rfl) ?_ _
      go_wp2
      go_ret2
      rw [Hu.out, if_pos Heq.out]
      exact ⟨v8, rfl, own8.lower hold, hS8.old⟩
    · have Hne := hd hq
      rw [decide_eq_false hq]
      clear hq
      refine held_takeG 13 (o := _) rfl (by kernel_rfl) (by kernel_rfl) (by kernel_rfl) (by simp [Region.wanted, yielded]) (.bool true) (fun _ _ _ h => h) (fun W hW => run_notB (b := false) (by rfl) (by simp [Act.eval])) (by assumption) ?_
      simp only [Act.put, List.getElem_toArray, List.getElem_cons_succ, List.getElem_cons_zero, List.setIfInBounds_toArray, List.set_cons_zero, List.set_cons_succ]
      refine held_take 14 (o := _) rfl (by kernel_rfl) (by kernel_rfl) (by kernel_rfl) rfl (.bool true) (fun _ _ _ h => h) (fun W hW => run_pick (b := false) (by rfl) (by simp [Act.eval]) (by simp [Act.eval]) W) (by assumption) ?_
      simp only [Act.put, List.getElem_toArray, List.getElem_cons_succ, List.getElem_cons_zero, List.setIfInBounds_toArray, List.set_cons_zero, List.set_cons_succ]
      refine wpAnyH_done (by kernel_rfl) ?_ _
      go_wp2
      go_ret2
      rw [Hu.out, if_neg Hne.out]
      exact ⟨rfl, hS6.old⟩
end Go.Proofs.YthigbggacgiamaaDoor
