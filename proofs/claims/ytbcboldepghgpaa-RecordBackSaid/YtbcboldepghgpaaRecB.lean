/-
  The walks of record's made, Key, Left.
-/
import Derived.Test.YtbcboldepghgpaaRecA
set_option linter.unusedVariables false
set_option linter.unusedSimpArgs false
set_option maxRecDepth 100000
namespace Go.Proofs.Ytbcboldepghgpaa
open Go.RowKit
/-- A suite, and how long its keys are. -/
def Suite.Ok (s : UInt16) (n : Nat) : Prop := (s = 4865 ∧ n = 16) ∨ (s = 4866 ∧ n = 32) ∨ (s = 4867 ∧ n = 32)
theorem known_ok (s : UInt16) (n : Nat) (h : Suite.Ok s n) (w : World) : Calls Try.prog 52 #[.int .u16 ((n16 s : Nat) : Int)] w fun e w' => e = .returned (.bool true) ∧ Below w.heap.size w w' := by
  rcases h with ⟨rfl, _⟩ | ⟨rfl, _⟩ | ⟨rfl, _⟩
  · exact Known_128 w
  · exact Known_256 w
  · exact Known_cha w
theorem keyLen_ok (s : UInt16) (n : Nat) (h : Suite.Ok s n) (w : World) : Calls Try.prog 26 #[.int .u16 ((n16 s : Nat) : Int)] w fun e w' => e = .returned (.int .i64 (n : Int)) ∧ Below w.heap.size w w' := by
  rcases h with ⟨rfl, rfl⟩ | ⟨rfl, rfl⟩ | ⟨rfl, rfl⟩
  · exact KeyLen_128 w
  · exact KeyLen_256 w
  · exact KeyLen_cha w
def Suite.limit (s : UInt16) : UInt64 := if s = 4867 then 4611686018427387904 else 23726566
theorem limit_ok (s : UInt16) (n : Nat) (h : Suite.Ok s n) (w : World) : Calls Try.prog 36 #[.int .u16 ((n16 s : Nat) : Int)] w fun e w' => e = .returned (.int .u64 ((n64 (Suite.limit s) : Nat) : Int)) ∧ Below w.heap.size w w' := by
  rcases h with ⟨rfl, rfl⟩ | ⟨rfl, rfl⟩ | ⟨rfl, rfl⟩
  · exact Limit_128 w
  · exact Limit_256 w
  · exact Limit_cha w
namespace Rec
def sealOf (s : UInt16) (key nonce a t : List UInt8) : List UInt8 := if s = 4867 then Cha.lock key nonce a t else Gcm.lock (Aes.keys key) nonce a t
def openOf (s : UInt16) (key nonce a t : List UInt8) : Option (List UInt8) := if s = 4867 then Cha.unlock key nonce a t else Gcm.unlock (Aes.keys key) nonce a t
theorem sealOf_len (s : UInt16) (key nonce a t : List UInt8) : (sealOf s key nonce a t).length = t.length + 16 := by
  unfold sealOf
  split
  · exact Cha.lock_len _ _ _ _
  · exact Gcm.lock_len _ _ _ _
theorem open_seal (s : UInt16) (key nonce a t : List UInt8) : openOf s key nonce a (sealOf s key nonce a t) = some t := by
  unfold openOf sealOf
  split
  · exact Cha.unlock_lock _ _ _ _
  · exact Gcm.unlock_lock _ _ _ _
attribute [irreducible] sealOf openOf
end Rec
theorem suiteSeal_ok (s : UInt16) (n : Nat) (hs : Suite.Ok s n) (A : Option Addr) (c : Nat) (key nonce : List UInt8) (hn : nonce.length = 12) (D : Option Addr) (p q : Nat) (aside : List UInt8) (E : Option Addr) (m d : Nat) (text : List UInt8) (w : World) (hr : ReadsB w w.heap.size A n key)
    (ha : ReadsB w w.heap.size D p aside) (hpq : p ≤ q) (ht : ReadsB w w.heap.size E m text) (hmd : m ≤ d) (hsz : p + m ≤ 140737488355200) :
    Calls Try.prog 9 #[.int .u16 ((n16 s : Nat) : Int), .slice A n c, .agg (arr nonce), .slice D p q, .slice E m d] w fun e w' => ∃ v, e = .returned (.tuple #[v, .int .i64 0]) ∧ OwnB w' w.heap.size v (Rec.sealOf s key nonce aside text) ∧ Below w.heap.size w w' := by
  unfold Rec.sealOf
  rcases hs with ⟨rfl, rfl⟩ | ⟨rfl, rfl⟩ | ⟨rfl, rfl⟩
  · exact suiteSeal_128' A c key nonce hn D p q aside E m d text w hr ha hpq ht hmd hsz
  · exact suiteSeal_256' A c key nonce hn D p q aside E m d text w hr ha hpq ht hmd hsz
  · exact suiteSeal_cha' A c key nonce hn D p q aside E m d text w hr ha hpq ht hmd hsz
theorem suiteOpen_ok (s : UInt16) (n : Nat) (hs : Suite.Ok s n) (A : Option Addr) (c : Nat) (key nonce : List UInt8) (hn : nonce.length = 12) (D : Option Addr) (p q : Nat) (aside : List UInt8) (E : Option Addr) (m d : Nat) (text : List UInt8) (w : World) (hr : ReadsB w w.heap.size A n key)
    (ha : ReadsB w w.heap.size D p aside) (hpq : p ≤ q) (ht : ReadsB w w.heap.size E m text) (hmd : m ≤ d) (hsz : p + m ≤ 140737488355200) :
    Calls Try.prog 11 #[.int .u16 ((n16 s : Nat) : Int), .slice A n c, .agg (arr nonce), .slice D p q, .slice E m d] w fun e w' => OpenedE 103 w (Rec.openOf s key nonce aside text) e w' := by
  unfold Rec.openOf
  rcases hs with ⟨rfl, rfl⟩ | ⟨rfl, rfl⟩ | ⟨rfl, rfl⟩
  · exact suiteOpen_128 A c key nonce hn D p q aside E m d text w hr ha hpq ht hmd hsz
  · exact suiteOpen_256 A c key nonce hn D p q aside E m d text w hr ha hpq ht hmd hsz
  · exact suiteOpen_cha A c key nonce hn D p q aside E m d text w hr ha hpq ht hmd hsz
namespace Rec
section
variable {P : Program} {w : World} {o : Oper} {ρ : Operand → Value} {x y : Operand} {t rt : TypeId}
theorem run_buildA (parts : List (Nat × Operand)) (ho : o.op = .build t parts.toArray) (ps : List (Nat × Value)) (hp : parts.map (fun p => (p.1, ρ p.2)) = ps) (cells : Array Value) (hb : P.built t ps = some cells) : (execOp ρ o).run P w = .ok (.value (.agg cells)) w := by
  have e : (parts.toArray.map fun (i, x) => (i, ρ x)).toList = ps := by rw [← hp]; simp
  unfold execOp
  simp only [ho, Sem.run_bind, run_build w t _ cells (e ▸ hb), Result.andThen_ok, Sem.run_pure]
theorem run_box (ho : o.op = .box t x) (cs : Array Value) (hx : ρ x = .agg cs) : (execOp ρ o).run P w = .ok (.value (.pointer (some ⟨w.heap.size, 0, none⟩))) (w.alloc (.cells cs t)) := by
  unfold execOp
  simp only [ho, hx]
  simp [newVar, newRow, Value.cells, go_sem]
end
theorem enter_clone (args : Array Value) (w : World) : (callFunc 41 args).run Try.prog w = .ok (.enter 41 args) w := by kernel_rfl
end Rec
set_option maxHeartbeats 4000000 in
set_option maxRecDepth 100000 in
theorem Rec.made_ok (s : UInt16) (n : Nat) (hs : Suite.Ok s n) (A : Option Addr) (c : Nat) (key iv : List UInt8) (hiv : iv.length = 12) (w : World) (hr : ReadsB w w.heap.size A n key) :
    Calls Try.prog 35 #[.int .u16 ((n16 s : Nat) : Int), .slice A n c, .agg (arr iv)] w fun e w' => ∃ gl, e = .returned (.tuple #[.pointer (some ⟨gl, 0, none⟩), .int .i64 0]) ∧ Rec.LkAt w' w.heap.size gl s key iv 0 ∧ Below w.heap.size w w' := by
  have Hiv := hd hiv
  have Hs := hd hs
  have Hn := hd (show n ≤ 32 by rcases hs with ⟨_, h⟩ | ⟨_, h⟩ | ⟨_, h⟩ <;> omega)
  have Hk := hd hr.len
  clear hs
  have hB0 := (Below.refl w.heap.size w).alloc (Nat.le_refl _) (.cells (arr iv) 25)
  have b0 : Blk (w.alloc (.cells (arr iv) 25)) w.heap.size 25 (arr iv) := Blk.nu rfl
  go_enter Try.func35, Try.ntmps35
  go_wp2_with (first
    | (go_at_call 26; refine (keyLen_ok s n Hs.out _).mono ?_; rintro e w2 ⟨rfl, hB2⟩; have hB3 := hB1.trans (hB2.mono hB1.size); have b2 := b1.below hB2 b1.lt)
    | (go_at_call 52; refine (known_ok s n Hs.out _).mono ?_; rintro e w1 ⟨rfl, hBa⟩; have hB1 := hB0.trans (hBa.mono hB0.size); have b1 := b0.below hBa b0.lt))
  clear hB0 b0 hBa b1 hB1 hB2
  refine p_start (fun W => Below w.heap.size w W ∧ Blk W w.heap.size 25 (arr iv)) (by kernel_rfl) ⟨hB3.drew, b2.drew⟩ ?_
  clear hB3 b2
  refine p_take 0 (o := _) rfl (by kernel_rfl) (by kernel_rfl) (by kernel_rfl) (wanted_plain rfl) (.int .u16 ((n16 s : Nat) : Int)) (fun _ _ _ h => h) (fun W hW => run_move (by rfl) (by simp [Act.eval]) W) ?_
  simp only [Act.put, List.getElem_toArray, List.getElem_cons_succ, List.getElem_cons_zero, List.setIfInBounds_toArray, List.set_cons_zero, List.set_cons_succ]
  refine p_take 1 (o := _) rfl (by kernel_rfl) (by kernel_rfl) (by kernel_rfl) (wanted_plain rfl) (.slice A n c) (fun _ _ _ h => h) (fun W hW => run_move (by rfl) (by simp [Act.eval]) W) ?_
  simp only [Act.put, List.getElem_toArray, List.getElem_cons_succ, List.getElem_cons_zero, List.setIfInBounds_toArray, List.set_cons_zero, List.set_cons_succ]
  refine p_take 3 (o := _) rfl (by kernel_rfl) (by kernel_rfl) (by kernel_rfl) (wanted_plain rfl) (.agg (arr iv)) (fun _ _ _ h => h) (fun W hW => run_load_arr (by rfl) (by simp [Act.eval]) ty12 iv Hiv.out hW.2.cells_arr) ?_
  simp only [Act.put, List.getElem_toArray, List.getElem_cons_succ, List.getElem_cons_zero, List.setIfInBounds_toArray, List.set_cons_zero, List.set_cons_succ]
  refine p_one 2 (by kernel_rfl) (fun W hW _ => ?_)
  refine op_call (o := _) rfl (wanted_plain rfl) 41 _ _ rfl #[.slice A n c] (by simp [Act.eval]) (Rec.enter_clone _) ?_
  refine (cloneB_any A n c key W ⟨hr.len, (hr.is.below hW.1).more hW.1.size⟩ (by have := Hn.out; omega)).mono ?_
  rintro e W5 ⟨v, rfl, own, hE⟩
  obtain ⟨A2, c2, ev⟩ := own.slice
  subst ev
  refine ⟨_, rfl, Next.mk (fun W => (Below w.heap.size w W ∧ Blk W w.heap.size 25 (arr iv)) ∧ OwnB W 0 (.slice A2 key.length c2) key) (fun _ => True) (fun _ h => h.1) ⟨⟨hW.1.trans (hE.mono hW.1.size), hW.2.below hE hW.2.lt⟩, own.low (Nat.zero_le _)⟩ trivial ?_⟩
  clear hE hW own
  simp only [Act.put, List.getElem_toArray, List.getElem_cons_succ, List.getElem_cons_zero, List.setIfInBounds_toArray, List.set_cons_zero, List.set_cons_succ]
  refine p_take 4 (o := _) rfl (by kernel_rfl) (by kernel_rfl) (by kernel_rfl) (wanted_plain rfl) (.agg (Rec.lkr s (.slice A2 key.length c2) iv 0)) (fun _ _ _ h => h) (fun W hW => Rec.run_buildA _ (by rfl) [(0, .int .u16 ((n16 s : Nat) : Int)), (1, .slice A2 key.length c2), (2, .agg (arr iv))] (by simp [Act.eval]) _ (Rec.builtL s A2 key.length c2 iv Hiv.out)) ?_
  simp only [Act.put, List.getElem_toArray, List.getElem_cons_succ, List.getElem_cons_zero, List.setIfInBounds_toArray, List.set_cons_zero, List.set_cons_succ]
  refine p_one 5 (by kernel_rfl) (fun W hW _ => ?_)
  refine op_do (o := _) rfl (wanted_plain rfl) (.pointer (some ⟨W.heap.size, 0, none⟩)) (W.alloc (.cells (Rec.lkr s (.slice A2 key.length c2) iv 0) 81)) (Rec.run_box (by rfl) (Rec.lkr s (.slice A2 key.length c2) iv 0) (by simp [Act.eval])) ?_
  have hE : Below W.heap.size W (W.alloc (.cells (Rec.lkr s (.slice A2 key.length c2) iv 0) 81)) := (Below.refl _ _).alloc (Nat.le_refl _) _
  obtain ⟨gl, Hgl⟩ : ∃ g, Hd (W.heap.size = g) := ⟨_, ⟨rfl⟩⟩
  have hlo : w.heap.size ≤ gl := by rw [← Hgl.out]; exact hW.1.1.size
  rw [Hgl.out]
  refine Next.mk (fun W => ((Below w.heap.size w W ∧ Blk W w.heap.size 25 (arr iv)) ∧ OwnB W 0 (.slice A2 key.length c2) key) ∧ Rec.LkAt W w.heap.size gl s key iv 0) (fun _ => True) (fun _ h => h.1) ⟨⟨⟨hW.1.1.trans (hE.mono hW.1.1.size), hW.1.2.alloc _⟩, hW.2.later hE⟩, ⟨⟨A2, c2, Blk.nu Hgl.out.symm, hW.2.later hE⟩, Hiv.out, hlo⟩⟩ trivial ?_
  clear hE hW
  simp only [Act.put, List.getElem_toArray, List.getElem_cons_succ, List.getElem_cons_zero, List.setIfInBounds_toArray, List.set_cons_zero, List.set_cons_succ]
  refine p_take 6 (o := _) rfl (by kernel_rfl) (by kernel_rfl) (by kernel_rfl) (wanted_plain rfl) (.pointer (some ⟨gl, 0, none⟩)) (fun _ _ _ h => h) (fun W hW => run_assign (by rfl) (by simp [Act.eval]) W) ?_
  simp only [Act.put, List.getElem_toArray, List.getElem_cons_succ, List.getElem_cons_zero, List.setIfInBounds_toArray, List.set_cons_zero, List.set_cons_succ]
  refine p_take 7 (o := _) rfl (by kernel_rfl) (by kernel_rfl) (by kernel_rfl) (wanted_plain rfl) (.int .i64 0) (fun _ _ _ h => h) (fun W hW => run_assign (by rfl) (by simp [Act.eval]) W) ?_
  simp only [Act.put, List.getElem_toArray, List.getElem_cons_succ, List.getElem_cons_zero, List.setIfInBounds_toArray, List.set_cons_zero, List.set_cons_succ]
  refine (show ∀ n, wpAnyV _ _ _ _ _ _ n _ _ _ from fun n => p_done (by kernel_rfl) (fun W1 H => ?_) n) _
  go_wp2
  go_ret2
  exact ⟨gl, rfl, H.2, H.1.1.1⟩
/-- A writer that locks up. -/
structure Rec.WrAt (W : World) (B gw gl : Nat) (s : UInt16) (key iv : List UInt8) (seq lim : UInt64) : Prop where
  bw : Blk W gw 75 (Rec.wrc (.pointer (some ⟨gl, 0, none⟩)) lim)
  lk : Rec.LkAt W B gl s key iv seq
  lo : B ≤ gw
theorem Rec.WrAt.next {W W' : World} {B gw gl : Nat} {s : UInt16} {key iv : List UInt8} {seq lim : UInt64} (h : Rec.WrAt W B gw gl s key iv seq lim) (hb : Below W.heap.size W W') : Rec.WrAt W' B gw gl s key iv seq lim :=
  ⟨h.bw.below hb h.bw.lt, h.lk.next hb, h.lo⟩
theorem Rec.LkAt.cell14 {W : World} {B g : Nat} {s : UInt16} {key iv : List UInt8} {seq : UInt64} (h : Rec.LkAt W B g s key iv seq) : W.cell? ⟨g, 14, none⟩ = some (.int .u64 ((n64 seq : Nat) : Int)) := by
  obtain ⟨⟨A, c, h1, h2⟩, h3, h4⟩ := h
  rw [h1.cell]
  simp [Rec.lkr, h3]
theorem Rec.LkAt.far {W : World} {B g : Nat} {s : UInt16} {key iv : List UInt8} {seq : UInt64} (h : Rec.LkAt W B g s key iv seq) {z : Nat} {t : TypeId} {cs : Array Value} (hz : Blk W z t cs) (h1 : t ≠ 81) (h2 : 5 ≠ t) (i : Nat) (u : Value) : Rec.LkAt (W.setCell ⟨z, i, none⟩ u) B g s key iv seq := by
  obtain ⟨⟨A, c, b, own⟩, h3, h4⟩ := h
  exact ⟨⟨A, c, b.far (fun e => hz.ne_ b h1 e.symm) u, own.far (own_blk_ne own.own hz h2) u⟩, h3, h4⟩
theorem Rec.LkAt.moved {W W' : World} {B g : Nat} {s : UInt16} {key iv : List UInt8} {seq : UInt64} (h : Rec.LkAt W B g s key iv seq) {z : Nat} {t : TypeId} {cs : Array Value} (hz : Blk W z t cs) (h1 : t ≠ 81) (h2 : 5 ≠ t) (hg : W.grownBy W' (some z)) : Rec.LkAt W' B g s key iv seq := by
  obtain ⟨⟨A, c, b, own⟩, h3, h4⟩ := h
  exact ⟨⟨A, c, b.grown hg (fun e => hz.ne_ b h1 (by injection e with e; exact e.symm)), own.moved hg (own_blk_ne own.own hz h2)⟩, h3, h4⟩
theorem Rec.LkAt.low {W : World} {B B' g : Nat} {s : UInt16} {key iv : List UInt8} {seq : UInt64} (h : Rec.LkAt W B g s key iv seq) (hB : B' ≤ B) : Rec.LkAt W B' g s key iv seq := ⟨h.at_, h.iv12, Nat.le_trans hB h.lo⟩
theorem below_grown {w W : World} (h : Below w.heap.size w W) (z : Nat) : w.grownBy W (some z) := ⟨h.os, h.tape, h.output, h.size, fun i hi _ => h.block i hi⟩
set_option maxHeartbeats 4000000 in
set_option maxRecDepth 100000 in
theorem Rec.left_any (B gw gl : Nat) (s : UInt16) (key iv : List UInt8) (seq lim : UInt64) (w : World) (h : Rec.WrAt w B gw gl s key iv seq lim) :
    Calls Try.prog 19 #[.pointer (some ⟨gw, 0, none⟩)] w fun e w' => e = .returned (.int .u64 ((n64 (lim - seq) : Nat) : Int)) ∧ Below w.heap.size w w' := by
  have c0 : w.cell? ⟨gw, 0, none⟩ = some (.pointer (some ⟨gl, 0, none⟩)) := h.bw.cell 0
  have c1 : w.cell? ⟨gw, 1, none⟩ = some (.int .u64 ((n64 lim : Nat) : Int)) := h.bw.cell 1
  have c2 := h.lk.cell14
  clear h
  go_enter Try.func19, Try.ntmps19
  go_wp2
  go_region
  all_goals go_wp2
  all_goals go_ret
  all_goals exact ⟨rfl, (Below.refl _ _).drew⟩
set_option maxHeartbeats 4000000 in
set_option maxRecDepth 100000 in
theorem Rec.leftNone_any (gw : Nat) (lim : UInt64) (w : World) (h : Blk w gw 75 (Rec.wrc (.pointer none) lim)) :
    Calls Try.prog 19 #[.pointer (some ⟨gw, 0, none⟩)] w fun e w' => e = .returned (.int .u64 18446744073709551615) ∧ Below w.heap.size w w' := by
  have c0 : w.cell? ⟨gw, 0, none⟩ = some (.pointer none) := h.cell 0
  clear h
  go_enter Try.func19, Try.ntmps19
  go_wp2
  go_ret
  exact ⟨rfl, Below.refl _ _⟩
set_option maxHeartbeats 4000000 in
set_option maxRecDepth 100000 in
theorem Rec.wkey_zero (s : UInt16) (n : Nat) (hs : Suite.Ok s n) (A : Option Addr) (c : Nat) (key iv : List UInt8) (hiv : iv.length = 12) (gw : Nat) (L0 : Value) (lim0 : UInt64) (w : World) (hr : ReadsB w w.heap.size A n key) (hw : Blk w gw 75 (Rec.wrc L0 lim0)) :
    Calls Try.prog 15 #[.pointer (some ⟨gw, 0, none⟩), .int .u16 ((n16 s : Nat) : Int), .slice A n c, .agg (arr iv), .int .u64 0] w fun e w' => e = .returned (.int .i64 0) ∧ (∃ gl, Rec.WrAt w' 0 gw gl s key iv 0 (Suite.limit s) ∧ w.heap.size ≤ gl) ∧ w.grownBy w' (some gw) := by
  have Hs := hd hs
  have Hiv := hd hiv
  clear hs
  have hB0 := (Below.refl w.heap.size w).alloc (Nat.le_refl _) (.cells (arr iv) 25)
  have b0 : Blk (w.alloc (.cells (arr iv) 25)) w.heap.size 25 (arr iv) := Blk.nu rfl
  go_enter Try.func15, Try.ntmps15
  go_wp2_with (refine wpl_load_arr rfl 25 _ rfl _ rfl 12 ty12 iv Hiv.out b0.cells_arr ?_)
  refine (Rec.made_ok s n Hs.out A c key iv Hiv.out _ (hr.onward hB0)).mono ?_
  rintro e W1 ⟨gl, rfl, lk, hE⟩
  have hB1 := hB0.trans (hE.mono hB0.size)
  have w1 := hw.below hB1 hw.lt
  have hlo := lk.lo
  simp only [World.size_alloc] at hlo
  go_wp2_with fail
  refine (limit_ok s n Hs.out _).mono ?_
  rintro e W2 ⟨rfl, hE2⟩
  have lk2 := lk.next hE2
  have w2 := w1.below hE2 w1.lt
  have hB2 := hB1.trans (hE2.mono hB1.size)
  have hgw := hw.lt
  clear hB0 b0 hE lk hB1 w1 hE2 hr hw
  have c0 : W2.cell? ⟨gw, 0, none⟩ = some L0 := w2.cell 0
  have c1 : W2.cell? ⟨gw, 1, none⟩ = some (.int .u64 ((n64 lim0 : Nat) : Int)) := w2.cell 1
  have f0 := w2.frozen 0
  have f1 := w2.frozen 1
  obtain ⟨T, HT⟩ : ∃ T, Hd (Suite.limit s = T) := ⟨_, ⟨rfl⟩⟩
  rw [HT.out]
  have lk3 : Rec.LkAt ((W2.setCell ⟨gw, 0, none⟩ (.pointer (some ⟨gl, 0, none⟩))).setCell ⟨gw, 1, none⟩ (.int .u64 ((n64 T : Nat) : Int))) 0 gl s key iv 0 := (((lk2.far w2 (by decide) (by decide) 0 _).far (w2.set_ 0 _) (by decide) (by decide) 1 _).low (Nat.zero_le _))
  have w3 : Blk ((W2.setCell ⟨gw, 0, none⟩ (.pointer (some ⟨gl, 0, none⟩))).setCell ⟨gw, 1, none⟩ (.int .u64 ((n64 T : Nat) : Int))) gw 75 (Rec.wrc (.pointer (some ⟨gl, 0, none⟩)) T) := (w2.set_ 0 _).set_ 1 _
  have hg := grew_setCell (grew_setCell (below_grown hB2 gw) 0 (.pointer (some ⟨gl, 0, none⟩))) 1 (.int .u64 ((n64 T : Nat) : Int))
  go_wp2
  go_ret
  exact ⟨rfl, ⟨gl, ⟨by rw [HT.out]; exact w3, lk3, Nat.zero_le _⟩, by omega⟩, hg⟩
set_option maxHeartbeats 4000000 in
set_option maxRecDepth 100000 in
theorem Rec.wkey_few (s : UInt16) (n : Nat) (hs : Suite.Ok s n) (A : Option Addr) (c : Nat) (key iv : List UInt8) (hiv : iv.length = 12) (m : UInt64) (h0 : 0 < m) (hm : m < 23726566) (gw : Nat) (L0 : Value) (lim0 : UInt64) (w : World) (hr : ReadsB w w.heap.size A n key) (hw : Blk w gw 75 (Rec.wrc L0 lim0)) :
    Calls Try.prog 15 #[.pointer (some ⟨gw, 0, none⟩), .int .u16 ((n16 s : Nat) : Int), .slice A n c, .agg (arr iv), .int .u64 ((n64 m : Nat) : Int)] w fun e w' => e = .returned (.int .i64 0) ∧ (∃ gl, Rec.WrAt w' 0 gw gl s key iv 0 (m) ∧ w.heap.size ≤ gl) ∧ w.grownBy w' (some gw) := by
  have Hs := hd hs
  have Hiv := hd hiv
  clear hs
  have hB0 := (Below.refl w.heap.size w).alloc (Nat.le_refl _) (.cells (arr iv) 25)
  have b0 : Blk (w.alloc (.cells (arr iv) 25)) w.heap.size 25 (arr iv) := Blk.nu rfl
  go_enter Try.func15, Try.ntmps15
  go_wp2_with (refine wpl_load_arr rfl 25 _ rfl _ rfl 12 ty12 iv Hiv.out b0.cells_arr ?_)
  refine (Rec.made_ok s n Hs.out A c key iv Hiv.out _ (hr.onward hB0)).mono ?_
  rintro e W1 ⟨gl, rfl, lk, hE⟩
  have hB1 := hB0.trans (hE.mono hB0.size)
  have w1 := hw.below hB1 hw.lt
  have hlo := lk.lo
  simp only [World.size_alloc] at hlo
  go_wp2_with fail
  refine (limit_ok s n Hs.out _).mono ?_
  rintro e W2 ⟨rfl, hE2⟩
  have lk2 := lk.next hE2
  have w2 := w1.below hE2 w1.lt
  have hB2 := hB1.trans (hE2.mono hB1.size)
  have hgw := hw.lt
  clear hB0 b0 hE lk hB1 w1 hE2 hr hw
  have c0 : W2.cell? ⟨gw, 0, none⟩ = some L0 := w2.cell 0
  have c1 : W2.cell? ⟨gw, 1, none⟩ = some (.int .u64 ((n64 lim0 : Nat) : Int)) := w2.cell 1
  have f0 := w2.frozen 0
  have f1 := w2.frozen 1
  obtain ⟨T, HT⟩ : ∃ T, Hd (Suite.limit s = T) := ⟨_, ⟨rfl⟩⟩
  rw [HT.out]
  have hm2 : m.toNat < T.toNat := by
    have h := UInt64.lt_iff_toNat_lt.1 hm
    rw [← HT.out]
    unfold Suite.limit
    split
    · exact Nat.lt_trans h (by decide)
    · exact h
  have lk3 : Rec.LkAt (((W2.setCell ⟨gw, 0, none⟩ (.pointer (some ⟨gl, 0, none⟩))).setCell ⟨gw, 1, none⟩ (.int .u64 ((n64 T : Nat) : Int))).setCell ⟨gw, 1, none⟩ (.int .u64 ((n64 m : Nat) : Int))) 0 gl s key iv 0 := ((((lk2.far w2 (by decide) (by decide) 0 _).far (w2.set_ 0 _) (by decide) (by decide) 1 _).far ((w2.set_ 0 _).set_ 1 _) (by decide) (by decide) 1 _).low (Nat.zero_le _))
  have w3 : Blk (((W2.setCell ⟨gw, 0, none⟩ (.pointer (some ⟨gl, 0, none⟩))).setCell ⟨gw, 1, none⟩ (.int .u64 ((n64 T : Nat) : Int))).setCell ⟨gw, 1, none⟩ (.int .u64 ((n64 m : Nat) : Int))) gw 75 (Rec.wrc (.pointer (some ⟨gl, 0, none⟩)) m) := ((w2.set_ 0 _).set_ 1 _).set_ 1 _
  have hg := grew_setCell (grew_setCell (grew_setCell (below_grown hB2 gw) 0 (.pointer (some ⟨gl, 0, none⟩))) 1 (.int .u64 ((n64 T : Nat) : Int))) 1 (.int .u64 ((n64 m : Nat) : Int))
  have z0 : (m != 0) = true := by
    rw [bne_iff_ne]
    intro e
    rw [e] at h0
    exact absurd h0 (by decide)
  have hlt : n64 m < n64 T := hm2
  clear h0 hm hm2
  go_wp2
  go_ret
  exact ⟨rfl, ⟨gl, ⟨w3, lk3, Nat.zero_le _⟩, by omega⟩, hg⟩
end Go.Proofs.Ytbcboldepghgpaa
