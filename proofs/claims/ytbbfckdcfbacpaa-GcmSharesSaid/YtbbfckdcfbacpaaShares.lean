/-
  The walk of the statement GcmShares.
-/
import Derived.Test.YtbbfckdcfbacpaaGcmH
import Derived.Test.YtbbfckdcfbacpaaGcmLaw2
import Derived.Test.YtbbfckdcfbacpaaHeldV
set_option linter.unusedVariables false
set_option linter.unusedSimpArgs false
namespace Go.Proofs.Ytbbfckdcfbacpaa
open Go.RowKit
theorem enter_hash (args : Array Value) (w : World) : (callFunc 21 args).run Try.prog w = .ok (.enter 21 args) w := by kernel_rfl
theorem enter_with8s (args : Array Value) (w : World) : (callFunc 20 args).run Try.prog w = .ok (.enter 20 args) w := by kernel_rfl
theorem run_slice_hi {P : Program} {w : World} {o : Oper} {ρ : Operand → Value} {t e : TypeId} {x y : Operand} (ho : o.op = .slice t x none (some y) none) (ht : P.underlying t = some (.slice e)) {m : Nat} (hs : (P.info? e).map (·.size) = some m) (D : Option Addr) (k d n : Nat)
    (hx : ρ x = .slice D k d) (hy : ρ y = .int .i64 (n : Int)) (hn : n ≤ d) : (execOp ρ o).run P w = .ok (.value (.slice D n d)) w := by
  have h2 : (n : Int) ≤ (d : Int) := by omega
  have h3 : (0 : Int) ≤ (n : Int) := by omega
  unfold execOp
  simp only [ho, hx, hy]
  simp [go_sem, Instr.sliceAt, Instr.slice, Instr.sliceBounds, Instr.sliceBound, run_underlying ht, run_sizeOf hs, hy, h2, h3, hn, asIntOf, Addr.add_zero']
theorem run_min2 {w : World} {o : Oper} {ρ : Operand → Value} {x y : Operand} (ho : o.op = .call { callee := .builtin .min, args := #[x, y], argTypes := #[3, 3] }) (n m : Nat)
    (hx : ρ x = .int .i64 (n : Int)) (hy : ρ y = .int .i64 (m : Int)) : (execOp ρ o).run Try.prog w = .ok (.value (.int .i64 ((min n m : Nat) : Int))) w := by
  unfold execOp
  simp only [ho, resolve, invoke, builtin, Sem.run_bind, Sem.run_pure, Result.andThen_ok, List.map_toArray, List.map_cons, List.map_nil, hx, hy]
  by_cases h : m < n
  · have h2 : (m : Int) < (n : Int) := by omega
    rw [Nat.min_eq_right (by omega)]
    simp [go_sem, h2]
  · have h2 : ¬ (m : Int) < (n : Int) := by omega
    rw [Nat.min_eq_left (by omega)]
    simp [go_sem, h2]
theorem wpl_valueGs {P : Program} {w : World} {o : Oper} {a : Act} {Q : Exit → Act → World → Prop} {ops : Array Oper} {rest : List Oper} {v : Value} (hrun : (execOp a.eval o).run P w = .ok (.value v) w) (hw : Region.wanted o (yielded ops a.tmps) = true)
    (h : wpList P ops Q rest (a.put o.dst v) w) : wpList P ops Q (o :: rest) a w :=
  wpList_step fun K hK => by
    rw [if_pos hw]
    unfold Oper.wp
    rw [hrun]
    exact hK _ _ h
theorem run_build_iss {P : Program} {o : Oper} {ρ : Operand → Value} {t : TypeId} {parts : List (Nat × Operand)} (ho : o.op = .build t parts.toArray) (ps : List (Nat × Value)) (hp : parts.map (fun p => (p.1, ρ p.2)) = ps) {cells : Array Value} (hb : P.built t ps = some cells) (w : World) :
    (execOp ρ o).run P w = .ok (.value (.agg cells)) w := by
  have e : (parts.toArray.map fun (i, x) => (i, ρ x)).toList = ps := by rw [← hp]; simp
  unfold execOp
  simp only [ho, Sem.run_bind, run_build w t _ cells (e ▸ hb), Result.andThen_ok, Sem.run_pure]
namespace Gcm
def xStep (a b : List UInt8) (i : Nat) (l : List UInt8) : List UInt8 := l.set i (nth a i ^^^ nth b i)
theorem xStep_len (a b l : List UInt8) (k : Nat) : (iter (xStep a b) k l).length = l.length := iter_keeps _ _ (fun k s => by simp [xStep]) k l
theorem xStep_nth (a b l : List UInt8) (k i : Nat) (hk : k ≤ l.length) : nth (iter (xStep a b) k l) i = if i < k then nth a i ^^^ nth b i else nth l i := by
  induction k with
  | zero => rw [iter, if_neg (by omega)]
  | succ k ih =>
    rw [iter, xStep, Aes.nth_set _ _ _ _ (by rw [xStep_len]; omega), ih (by omega)]
    by_cases h : i = k
    · subst h; rw [if_pos rfl, if_pos (by omega)]
    · rw [if_neg h]
      by_cases h2 : i < k
      · rw [if_pos h2, if_pos (by omega)]
      · rw [if_neg h2, if_neg (by omega)]
theorem nth_past (l : List UInt8) (i : Nat) (h : l.length ≤ i) : nth l i = 0 := by
  unfold nth; rw [List.getD_eq_getElem?_getD, List.getElem?_eq_none h]; rfl
theorem nth_noughts (n i : Nat) : nth (List.replicate n (0 : UInt8)) i = 0 := by
  unfold nth; rw [List.getD_eq_getElem?_getD, List.getElem?_replicate]; split <;> rfl
/-- The text that the statement makes. -/
theorem share_nth (a b : List UInt8) (n : Nat) (ha : n ≤ a.length) (hb : n ≤ b.length) (i : Nat) : nth (a.take n) i ^^^ nth (b.take n) i = nth (iter (xStep a b) n (List.replicate n 0)) i ^^^ nth (List.replicate n 0) i := by
  rw [xStep_nth _ _ _ _ _ (by simp), nth_noughts, UInt8.xor_zero]
  by_cases h : i < n
  · rw [if_pos h, Aes.nth_take _ _ _ h, Aes.nth_take _ _ _ h]
  · rw [if_neg h, nth_past _ _ (by rw [List.length_take]; omega), nth_past _ _ (by rw [List.length_take]; omega), UInt8.xor_self]
end Gcm
/-- What came in, and is only looked at. -/
structure ShE (w : World) (h aside a b : List UInt8) (P1 : Option Addr) (n1 : Nat) (P2 : Option Addr) (n2 : Nat) (P3 : Option Addr) (n3 : Nat) (W : World) : Prop where
  h : Blk W w.heap.size 32 (arr h)
  aside : ReadsB W W.heap.size P1 n1 aside
  a : ReadsB W W.heap.size P2 n2 a
  b : ReadsB W W.heap.size P3 n3 b
  old : Below w.heap.size w W
section
variable {w : World} {h aside a b : List UInt8} {P1 : Option Addr} {n1 : Nat} {P2 : Option Addr} {n2 : Nat} {P3 : Option Addr} {n3 : Nat} {W w' : World}
theorem ShE.next (hS : ShE w h aside a b P1 n1 P2 n2 P3 n3 W) (hb : Below W.heap.size W w') : ShE w h aside a b P1 n1 P2 n2 P3 n3 w' :=
  ⟨hS.h.below hb hS.h.lt, hS.aside.onward hb, hS.a.onward hb, hS.b.onward hb, hS.old.trans (hb.mono hS.old.size)⟩
end
/-- The same, all of it below block B. -/
structure ShB (w : World) (h aside a b : List UInt8) (P1 : Option Addr) (n1 : Nat) (P2 : Option Addr) (n2 : Nat) (P3 : Option Addr) (n3 : Nat) (B : Nat) (W : World) : Prop where
  h : Blk W w.heap.size 32 (arr h)
  hlt : w.heap.size < B
  aside : ReadsB W B P1 n1 aside
  a : ReadsB W B P2 n2 a
  b : ReadsB W B P3 n3 b
  old : Below w.heap.size w W
theorem ShB.next {w : World} {h aside a b : List UInt8} {P1 : Option Addr} {n1 : Nat} {P2 : Option Addr} {n2 : Nat} {P3 : Option Addr} {n3 B : Nat} (W w' : World) (hS : ShB w h aside a b P1 n1 P2 n2 P3 n3 B W) (hb : Below B W w') : ShB w h aside a b P1 n1 P2 n2 P3 n3 B w' :=
  ⟨hS.h.below hb hS.hlt, hS.hlt, ⟨hS.aside.len, hS.aside.is.below hb⟩, ⟨hS.a.len, hS.a.is.below hb⟩, ⟨hS.b.len, hS.b.is.below hb⟩, hS.old.trans (hb.mono (Nat.le_of_lt hS.hlt))⟩
theorem ReadsB.wide {w : World} {B B' : Nat} {A : Option Addr} {n : Nat} {l : List UInt8} (h : ReadsB w B A n l) (hB : B ≤ B') : ReadsB w B' A n l := ⟨h.len, h.is.more hB⟩
/-- .. and the text made, what the region has made since: a slice of noughts, a block. -/
structure ShS (E : World → Prop) (B : Nat) (X : Option Addr) (n : Nat) (x : List UInt8) (bs : List (Nat × List UInt8)) (g : Option Nat × Option (Nat × List UInt8)) (W : World) : Prop where
  env : E W
  x : ReadsB W B X n x
  bs : ∀ p ∈ bs, p.1 < B ∧ Blk W p.1 32 (arr p.2)
  noughts : ∀ y, g.1 = some y → OwnB W B (.slice (some ⟨y, 0, none⟩) n n) (List.replicate n 0)
  al : ∀ p l, g.2 = some (p, l) → B ≤ p ∧ Blk W p 32 (arr l)
  sz : B ≤ W.heap.size
section
variable {E : World → Prop} {B : Nat} {X : Option Addr} {n : Nat} {x : List UInt8} {bs : List (Nat × List UInt8)} {g : Option Nat × Option (Nat × List UInt8)} {W w' : World}
theorem ShS.next (hE : ∀ W w', E W → Below B W w' → E w') (h : ShS E B X n x bs g W) (hb : Below W.heap.size W w') : ShS E B X n x bs g w' :=
  ⟨hE _ _ h.env (hb.mono h.sz), ⟨h.x.len, h.x.is.below (hb.mono h.sz)⟩, fun p hp => ⟨(h.bs p hp).1, (h.bs p hp).2.below hb (h.bs p hp).2.lt⟩, fun y hy => (h.noughts y hy).later hb, fun p l hp => ⟨(h.al p l hp).1, (h.al p l hp).2.below hb (h.al p l hp).2.lt⟩, Nat.le_trans h.sz hb.size⟩
theorem ShS.call {P : Program} {f : FuncId} {args : Array Value} {v : Value} (hE : ∀ W w', E W → Below B W w' → E w') (h : ShS E B X n x bs g W)
    (hc : Calls P f args W fun e w' => e = .returned v ∧ Below W.heap.size W w') : Calls P f args W fun e w' => e = .returned v ∧ ShS E B X n x bs g w' := hc.mono fun _ _ ⟨he, hb⟩ => ⟨he, h.next hE hb⟩
theorem ShS.laid (hE : ∀ W w', E W → Below B W w' → E w') {y : Option Nat} (h : ShS E B X n x bs (y, none) W) : ShS E B X n x bs (y, some (W.heap.size, List.replicate 16 0)) (W.alloc (.cells (arr (List.replicate 16 0)) 32)) := by
  have h1 := h.next hE ((Below.refl W.heap.size W).alloc (Nat.le_refl _) (.cells (arr (List.replicate 16 0)) 32))
  exact ⟨h1.env, h1.x, h1.bs, h1.noughts, fun p l hp => by cases hp; exact ⟨h.sz, Blk.nu rfl⟩, h1.sz⟩
theorem ShS.stored (hE : ∀ W w', E W → Below B W w' → E w') {y : Option Nat} {q : Nat} {l l' : List UInt8} (h : ShS E B X n x bs (y, some (q, l)) W) : ShS E B X n x bs (y, some (q, l')) (W.setRow q (arr l')) := by
  obtain ⟨hq, hb⟩ := h.al q l rfl
  have hbel := below_setRow (Below.refl B W) hq (arr l')
  exact ⟨hE _ _ h.env hbel, ⟨h.x.len, h.x.is.below hbel⟩, fun p hp => ⟨(h.bs p hp).1, (h.bs p hp).2.farRow (by have := (h.bs p hp).1; omega) _⟩,
    fun y hy => (h.noughts y hy).moved (grew_setRow (World.grownBy.refl W (some q)) _) (own_blk_ne (h.noughts y hy).own hb (by decide)), fun p l2 hp => by cases hp; exact ⟨hq, hb.setRow _⟩, by simpa using h.sz⟩
theorem ShS.made (hE : ∀ W w', E W → Below B W w' → E w') {al : Option (Nat × List UInt8)} (h : ShS E B X n x bs (none, al) W) {y : Nat} (hg : W.grownBy w' none) (ho : OwnB w' B (.slice (some ⟨y, 0, none⟩) n n) (List.replicate n 0)) : ShS E B X n x bs (some y, al) w' := by
  have h1 := h.next hE (below_none (Below.refl W.heap.size W) hg (Nat.le_refl _))
  exact ⟨h1.env, h1.x, h1.bs, fun y' hy => by cases hy; exact ho, h1.al, h1.sz⟩
end
theorem own_zero {w w' : World} {B : Nat} {v : Value} {n : Nat} (h : OwnB w B v (List.replicate n 0)) (e : w = w') : OwnB w' B v (List.replicate n 0) := e ▸ h
def ShR (g g' : Option Nat × Option (Nat × List UInt8)) : Prop := ∀ y, g.1 = some y → g'.1 = some y
theorem ShR.rf (g : Option Nat × Option (Nat × List UInt8)) : ShR g g := fun _ h => h
theorem ShR.tr (x y z : Option Nat × Option (Nat × List UInt8)) (h1 : ShR x y) (h2 : ShR y z) : ShR x z := fun v hv => h2 v (h1 v hv)
theorem StepV.made {E : World → Prop} {B : Nat} {X : Option Addr} {n : Nat} {x : List UInt8} {bs : List (Nat × List UInt8)} {al : Option (Nat × List UInt8)} {W : World} {md : Region.Mode} {ops : Array Oper} {Q : Exit → Act → World → Prop} {fuel : Nat} {listed : Array Bool} {a : Act} {i : Nat} {o : Oper} (hn : n ≤ 140737488355328) (hE : ∀ W w', E W → Below B W w' → E w')
    (hi : ops[i]? = some o) (hgd : o.guard = none) (l c : Operand) (ho : o.op = .makeSlice 22 l c) (hl : a.eval l = .int .i64 (n : Int)) (hc : a.eval c = .int .i64 (n : Int)) (hW : ShS E B X n x bs (none, al) W)
    (h : wpAnyV Try.prog md ops Q (ShS E B X n x bs) ShR fuel (listed.setIfInBounds i true) (a.put o.dst (.slice (some ⟨W.heap.size, 0, none⟩) n n)) (some W.heap.size, al)) : StepV Try.prog md ops Q (ShS E B X n x bs) ShR fuel listed a (none, al) W i := by
  obtain ⟨w', hrun, h1, h2⟩ := run_makeB W l c ho B n hl hc hn hW.sz
  exact ⟨o, hi, wanted_plain hgd, .inl ⟨_, w', (some W.heap.size, al), hrun, (fun y hy => by cases hy), hW.made hE h2 h1, h⟩⟩
set_option maxHeartbeats 8000000 in
set_option maxRecDepth 100000 in
theorem shares_all (h : List UInt8) (P1 : Option Addr) (n1 d1 : Nat) (aside : List UInt8) (P2 : Option Addr) (n2 d2 : Nat) (a : List UInt8) (P3 : Option Addr) (n3 d3 : Nat) (b : List UInt8) (w : World) (hh : h.length = 16) (h1 : ReadsB w w.heap.size P1 n1 aside) (hd1 : n1 ≤ d1) (hm1 : d1 ≤ 140737488351232)
    (h2 : ReadsB w w.heap.size P2 n2 a) (hd2 : n2 ≤ d2) (hm2 : d2 ≤ 140737488351232) (h3 : ReadsB w w.heap.size P3 n3 b) (hd3 : n3 ≤ d3) (hm3 : d3 ≤ 140737488351232) :
    Calls Try.prog 7 #[.agg (arr h), .slice P1 n1 d1, .slice P2 n2 d2, .slice P3 n3 d3] w fun e w' => e = .returned (.bool true) ∧ Below w.heap.size w w' := by
  have Hh := hd hh
  have Hal := hd h2.len
  have Hbl := hd h3.len
  clear hh
  have hB0 := (Below.refl w.heap.size w).alloc (Nat.le_refl _) (.cells (arr h) 32)
  have hE0 : ShE w h aside a b P1 n1 P2 n2 P3 n3 (w.alloc (.cells (arr h) 32)) := ⟨Blk.nu rfl, h1.onward hB0, h2.onward hB0, h3.onward hB0, hB0⟩
  clear h1 h2 h3 hB0
  obtain ⟨n, Hn⟩ : ∃ n, Hd (min n2 n3 = n) := ⟨_, ⟨rfl⟩⟩
  have hn2 : n ≤ n2 := by rw [← Hn.out]; exact Nat.min_le_left _ _
  have hn3 : n ≤ n3 := by rw [← Hn.out]; exact Nat.min_le_right _ _
  have hmin : min (n2 : Int) (n3 : Int) = (n : Int) := by rw [← Hn.out]; omega
  go_enter Try.func7, Try.ntmps7
  go_wp2_with fail
  refine (head8_any _).mono ?_
  rintro e w1 ⟨rfl, hB1⟩
  have hE1 := hE0.next hB1
  clear hE0 hB1
  go_wp2_with (first | (refine wpl_valueGs (run_min2 rfl n2 n3 rfl rfl) rfl ?_; rw [Hn.out]) | (refine wpl_makeB rfl _ _ rfl w1.heap.size n rfl rfl (by omega) (Nat.le_refl _) ?_; intro w2 own2 gr2))
  have hB2 : Below w1.heap.size w1 w2 := below_none (Below.refl _ _) gr2 (Nat.le_refl _)
  obtain ⟨z, Hz⟩ : ∃ z, Hd (w1.heap.size = z) := ⟨_, ⟨rfl⟩⟩
  clear gr2 hmin
  try simp only [Act.put, List.setIfInBounds_toArray, List.set_cons_zero, List.set_cons_succ]
  rw [Hz.out] at own2 hB2 ⊢
  go_loopw [12] (fun i wr => ∃ k : Nat, k ≤ n ∧ i = .int .i64 (k : Int) ∧ OwnB wr z (.slice (some ⟨z, 0, none⟩) n n) (iter (Gcm.xStep a b) k (List.replicate n 0)) ∧ Below z w1 wr) (fun i _ => n - (intOf i).toNat)
  case atStart => exact ⟨0, by omega, rfl, own2, hB2⟩
  case round =>
    clear own2 hB2
    obtain ⟨k, hk, rfl, own, hB⟩ := hrel
    have hE := hE1.next (by rw [Hz.out]; exact hB)
    by_cases hlt : k < n
    · obtain ⟨s, Hs⟩ : ∃ s, Hd (iter (Gcm.xStep a b) k (List.replicate n 0) = s) := ⟨_, ⟨rfl⟩⟩
      rw [Hs.out] at own
      have Hsl := hd (show s.length = n by rw [← Hs.out, Gcm.xStep_len, List.length_replicate])
      have tk : (k : Int) < (n : Int) := by omega
      obtain ⟨ad2, hA2, _, c2⟩ := hE.a.cell (k := k) (by omega)
      obtain ⟨ad3, hA3, _, c3⟩ := hE.b.cell (k := k) (by omega)
      subst hA2 hA3
      have own' : OwnB wr z (.slice (some ⟨z, 0, none⟩) s.length n) s := by rw [Hsl.out]; exact own
      have c0 := own'.cell k (by rw [Hsl.out]; exact hlt)
      have f0 := own'.frozen k
      have t2 : (k : Int) < (n2 : Int) := by omega
      have t3 : (k : Int) < (n3 : Int) := by omega
      clear hE
      go_wp2
      go_still_tail 12, (by kernel_rfl)
      change wpList _ _ _ _ _ wr.drew
      go_wp2
      go_roundw
      case rel =>
        have own3 := own'.drew.set_ k (nth a k ^^^ nth b k)
        rw [Hsl.out] at own3
        exact ⟨k + 1, by omega, by go_num, by rw [iter, Hs.out]; exact own3, hB.drew.setCell (Nat.le_refl _) _⟩
      case measure => simp [intOf]; omega
    · have ek : k = n := by omega
      subst ek
      have tk : ¬ (k : Int) < (k : Int) := by omega
      obtain ⟨x, Hx⟩ : ∃ x, Hd (iter (Gcm.xStep a b) k (List.replicate k 0) = x) := ⟨_, ⟨rfl⟩⟩
      rw [Hx.out] at own
      have Hxl := hd (show x.length = k by rw [← Hx.out, Gcm.xStep_len, List.length_replicate])
      have rx : ReadsB wr wr.heap.size (some ⟨z, 0, none⟩) k x := own.reads_any.2
      clear own hB hE1
      obtain ⟨HA, HHA⟩ : ∃ x, Hd (Gcm.hash h aside (a.take k) = x) := ⟨_, ⟨rfl⟩⟩
      obtain ⟨HB, HHB⟩ : ∃ x, Hd (Gcm.hash h aside (b.take k) = x) := ⟨_, ⟨rfl⟩⟩
      obtain ⟨HX, HHX⟩ : ∃ y, Hd (Gcm.hash h aside x = y) := ⟨_, ⟨rfl⟩⟩
      obtain ⟨HZ, HHZ⟩ : ∃ y, Hd (Gcm.hash h aside (List.replicate k 0) = y) := ⟨_, ⟨rfl⟩⟩
      obtain ⟨p, Hp⟩ : ∃ y, Hd (Aes.xor16 HA HB = y) := ⟨_, ⟨rfl⟩⟩
      have Hqq := hd (show Aes.xor16 HX HZ = p by
        rw [← Hp.out, ← HHA.out, ← HHB.out, ← HHX.out, ← HHZ.out, ← Hx.out]
        exact (Gcm.hash_share h aside _ _ _ _ (by rw [List.length_take, List.length_take]; have := Hal.out; have := Hbl.out; omega) (by rw [Gcm.xStep_len, List.length_take, List.length_replicate]; have := Hal.out; omega) (by rw [List.length_take, List.length_replicate]; have := Hal.out; omega)
          (Gcm.share_nth a b k (by have := Hal.out; omega) (by have := Hbl.out; omega))).symm)
      have HAl := hd (show HA.length = 16 by rw [← HHA.out]; exact Gcm.hash_len _ _ _)
      have HBl := hd (show HB.length = 16 by rw [← HHB.out]; exact Gcm.hash_len _ _ _)
      have HXl := hd (show HX.length = 16 by rw [← HHX.out]; exact Gcm.hash_len _ _ _)
      have HZl := hd (show HZ.length = 16 by rw [← HHZ.out]; exact Gcm.hash_len _ _ _)
      have Hpl := hd (show p.length = 16 by rw [← Hp.out, Aes.xor16_len, HAl.out])
      have hEn := ShB.next (w := w) (h := h) (aside := aside) (a := a) (b := b) (P1 := P1) (n1 := n1) (P2 := P2) (n2 := n2) (P3 := P3) (n3 := n3) (B := wr.heap.size)
      have hS0 : ShS (ShB w h aside a b P1 n1 P2 n2 P3 n3 wr.heap.size) wr.heap.size (some ⟨z, 0, none⟩) k x [] (none, none) wr := ⟨⟨hE.h, hE.h.lt, hE.aside, hE.a, hE.b, hE.old⟩, rx, (fun p hp => by cases hp), (fun y hy => by cases hy), (fun q l hq => by cases hq), Nat.le_refl _⟩
      clear hE rx
      go_wp2_with fail
      refine v_start (S := ShS (ShB w h aside a b P1 n1 P2 n2 P3 n3 wr.heap.size) wr.heap.size (some ⟨z, 0, none⟩) k x []) ShR (none, none) (by kernel_rfl) (hS0.next hEn (Below.refl _ _).drew) ?_
      refine v_take ShR.rf ShR.tr 0 (o := _) rfl (by kernel_rfl) (by kernel_rfl) (by kernel_rfl) (.agg (arr h)) (fun _ _ _ h => h) (gv_value (wanted_plain rfl) (fun g1 hg W hW => run_load_arr (by rfl) (by simp [Act.eval]) ty16 h Hh.out (hW.env.h).cells_arr)) ?_
      simp only [Act.put, List.getElem_toArray, List.getElem_cons_succ, List.getElem_cons_zero, List.setIfInBounds_toArray, List.set_cons_zero, List.set_cons_succ]
      refine v_take ShR.rf ShR.tr 1 (o := _) rfl (by kernel_rfl) (by kernel_rfl) (by kernel_rfl) (.slice P1 n1 d1) (fun _ _ _ h => h) (gv_value (wanted_plain rfl) (fun g1 hg W hW => run_move (by rfl) (by simp [Act.eval]) W)) ?_
      simp only [Act.put, List.getElem_toArray, List.getElem_cons_succ, List.getElem_cons_zero, List.setIfInBounds_toArray, List.set_cons_zero, List.set_cons_succ]
      refine v_take ShR.rf ShR.tr 2 (o := _) rfl (by kernel_rfl) (by kernel_rfl) (by kernel_rfl) (.slice P2 n2 d2) (fun _ _ _ h => h) (gv_value (wanted_plain rfl) (fun g1 hg W hW => run_move (by rfl) (by simp [Act.eval]) W)) ?_
      simp only [Act.put, List.getElem_toArray, List.getElem_cons_succ, List.getElem_cons_zero, List.setIfInBounds_toArray, List.set_cons_zero, List.set_cons_succ]
      refine v_take ShR.rf ShR.tr 3 (o := _) rfl (by kernel_rfl) (by kernel_rfl) (by kernel_rfl) (.int .i64 (k : Int)) (fun _ _ _ h => h) (gv_value (wanted_plain rfl) (fun g1 hg W hW => run_move (by rfl) (by simp [Act.eval]) W)) ?_
      simp only [Act.put, List.getElem_toArray, List.getElem_cons_succ, List.getElem_cons_zero, List.setIfInBounds_toArray, List.set_cons_zero, List.set_cons_succ]
      refine v_take ShR.rf ShR.tr 4 (o := _) rfl (by kernel_rfl) (by kernel_rfl) (by kernel_rfl) (.slice P2 k d2) (fun _ _ _ h => h) (gv_value (wanted_plain rfl) (fun g1 hg W hW => run_slice_hi (by rfl) Try.underlying22 u8_one P2 n2 d2 k (by simp [Act.eval]) (by simp [Act.eval]) (by omega))) ?_
      simp only [Act.put, List.getElem_toArray, List.getElem_cons_succ, List.getElem_cons_zero, List.setIfInBounds_toArray, List.set_cons_zero, List.set_cons_succ]
      refine v_take ShR.rf ShR.tr 6 (o := _) rfl (by kernel_rfl) (by kernel_rfl) (by kernel_rfl) (.agg (arr h)) (fun _ _ _ h => h) (gv_value (wanted_plain rfl) (fun g1 hg W hW => run_load_arr (by rfl) (by simp [Act.eval]) ty16 h Hh.out (hW.env.h).cells_arr)) ?_
      simp only [Act.put, List.getElem_toArray, List.getElem_cons_succ, List.getElem_cons_zero, List.setIfInBounds_toArray, List.set_cons_zero, List.set_cons_succ]
      refine v_take ShR.rf ShR.tr 7 (o := _) rfl (by kernel_rfl) (by kernel_rfl) (by kernel_rfl) (.slice P1 n1 d1) (fun _ _ _ h => h) (gv_value (wanted_plain rfl) (fun g1 hg W hW => run_move (by rfl) (by simp [Act.eval]) W)) ?_
      simp only [Act.put, List.getElem_toArray, List.getElem_cons_succ, List.getElem_cons_zero, List.setIfInBounds_toArray, List.set_cons_zero, List.set_cons_succ]
      refine v_take ShR.rf ShR.tr 8 (o := _) rfl (by kernel_rfl) (by kernel_rfl) (by kernel_rfl) (.slice P3 n3 d3) (fun _ _ _ h => h) (gv_value (wanted_plain rfl) (fun g1 hg W hW => run_move (by rfl) (by simp [Act.eval]) W)) ?_
      simp only [Act.put, List.getElem_toArray, List.getElem_cons_succ, List.getElem_cons_zero, List.setIfInBounds_toArray, List.set_cons_zero, List.set_cons_succ]
      refine v_take ShR.rf ShR.tr 9 (o := _) rfl (by kernel_rfl) (by kernel_rfl) (by kernel_rfl) (.int .i64 (k : Int)) (fun _ _ _ h => h) (gv_value (wanted_plain rfl) (fun g1 hg W hW => run_move (by rfl) (by simp [Act.eval]) W)) ?_
      simp only [Act.put, List.getElem_toArray, List.getElem_cons_succ, List.getElem_cons_zero, List.setIfInBounds_toArray, List.set_cons_zero, List.set_cons_succ]
      refine v_take ShR.rf ShR.tr 10 (o := _) rfl (by kernel_rfl) (by kernel_rfl) (by kernel_rfl) (.slice P3 k d3) (fun _ _ _ h => h) (gv_value (wanted_plain rfl) (fun g1 hg W hW => run_slice_hi (by rfl) Try.underlying22 u8_one P3 n3 d3 k (by simp [Act.eval]) (by simp [Act.eval]) (by omega))) ?_
      simp only [Act.put, List.getElem_toArray, List.getElem_cons_succ, List.getElem_cons_zero, List.setIfInBounds_toArray, List.set_cons_zero, List.set_cons_succ]
      refine v_take ShR.rf ShR.tr 5 (o := _) rfl (by kernel_rfl) (by kernel_rfl) (by kernel_rfl) (.agg (arr HA)) (fun _ _ _ h => h) (gv_call (wanted_plain rfl) 21 _ _ rfl #[.agg (arr h), .slice P1 n1 d1, .slice P2 k d2] (by simp [Act.eval]) (enter_hash _) (fun g1 hg W hW => ShS.call hEn hW (by have hh := hash_any h Hh.out P1 n1 d1 aside P2 k d2 (a.take k) W (hW.env.aside.wide hW.sz) hd1 ((hW.env.a.wide hW.sz).take hn2) (by omega) (by omega) (by omega); rw [HHA.out] at hh; exact hh))) ?_
      simp only [Act.put, List.getElem_toArray, List.getElem_cons_succ, List.getElem_cons_zero, List.setIfInBounds_toArray, List.set_cons_zero, List.set_cons_succ]
      refine v_take ShR.rf ShR.tr 11 (o := _) rfl (by kernel_rfl) (by kernel_rfl) (by kernel_rfl) (.agg (arr HB)) (fun _ _ _ h => h) (gv_call (wanted_plain rfl) 21 _ _ rfl #[.agg (arr h), .slice P1 n1 d1, .slice P3 k d3] (by simp [Act.eval]) (enter_hash _) (fun g1 hg W hW => ShS.call hEn hW (by have hh := hash_any h Hh.out P1 n1 d1 aside P3 k d3 (b.take k) W (hW.env.aside.wide hW.sz) hd1 ((hW.env.b.wide hW.sz).take hn3) (by omega) (by omega) (by omega); rw [HHB.out] at hh; exact hh))) ?_
      simp only [Act.put, List.getElem_toArray, List.getElem_cons_succ, List.getElem_cons_zero, List.setIfInBounds_toArray, List.set_cons_zero, List.set_cons_succ]
      refine v_take ShR.rf ShR.tr 12 (o := _) rfl (by kernel_rfl) (by kernel_rfl) (by kernel_rfl) (.agg (arr p)) (fun _ _ _ h => h) (gv_call (wanted_plain rfl) 20 _ _ rfl #[.agg (arr HA), .agg (arr HB)] (by simp [Act.eval]) (enter_with8s _) (fun g1 hg W hW => ShS.call hEn hW (by have hh := with08_any HA HB HAl.out HBl.out W; rw [Hp.out] at hh; exact hh))) ?_
      simp only [Act.put, List.getElem_toArray, List.getElem_cons_succ, List.getElem_cons_zero, List.setIfInBounds_toArray, List.set_cons_zero, List.set_cons_succ]
      refine v_each (rs := [13]) (by kernel_rfl) (by simp) (fun i hi W hW => ?_)
      obtain rfl : i = 13 := by simpa using hi
      refine ⟨_, rfl, wanted_plain rfl, .inl ⟨_, _, (none, some (W.heap.size, List.replicate 16 0)), run_alloc (by rfl) _ zero16 W, (fun y hy => hy), hW.laid hEn, ?_⟩⟩
      obtain ⟨q, Hq⟩ : ∃ q, Hd (W.heap.size = q) := ⟨_, ⟨rfl⟩⟩
      rw [Hq.out]
      clear hW hi
      simp only [Act.put, List.getElem_toArray, List.getElem_cons_succ, List.getElem_cons_zero, List.setIfInBounds_toArray, List.set_cons_zero, List.set_cons_succ]
      refine v_each (rs := [14]) (by kernel_rfl) (by simp) (fun i hi W hW => ?_)
      obtain rfl : i = 14 := by simpa using hi
      refine ⟨_, rfl, wanted_plain rfl, .inr ⟨_, (none, some (q, p)), run_store_arr (by rfl) q p (by simp [Act.eval]) (by simp [Act.eval]) 32 _ (hW.al q _ rfl).2 16 ty16.size Hpl.out (by rw [arr_size, List.length_replicate]), (fun y hy => hy), hW.stored hEn, ?_⟩⟩
      clear hW hi
      simp only [Act.put, List.getElem_toArray, List.getElem_cons_succ, List.getElem_cons_zero, List.setIfInBounds_toArray, List.set_cons_zero, List.set_cons_succ]
      refine v_done (by kernel_rfl) (fun W8 hW8 => ?_) _
      obtain ⟨hq, bq⟩ := hW8.al q p rfl
      have hEn9 := ShB.next (w := w) (h := h) (aside := aside) (a := a) (b := b) (P1 := P1) (n1 := n1) (P2 := P2) (n2 := n2) (P3 := P3) (n3 := n3) (B := W8.heap.size)
      have hS9 : ShS (ShB w h aside a b P1 n1 P2 n2 P3 n3 W8.heap.size) W8.heap.size (some ⟨z, 0, none⟩) k x [(q, p)] (none, none) W8 :=
        ⟨⟨hW8.env.h, Nat.lt_of_lt_of_le hW8.env.hlt hW8.sz, hW8.env.aside.wide hW8.sz, hW8.env.a.wide hW8.sz, hW8.env.b.wide hW8.sz, hW8.env.old⟩, hW8.x.wide hW8.sz, (fun p' hp => by rcases List.mem_cons.1 hp with rfl | hp; exact ⟨bq.lt, bq⟩; cases hp), (fun y hy => by cases hy), (fun q l hq => by cases hq), Nat.le_refl _⟩
      have hk47 : k ≤ 140737488355328 := by omega
      clear hW8 hq bq hEn hS0
      go_wp2_with fail
      refine v_start (S := ShS (ShB w h aside a b P1 n1 P2 n2 P3 n3 W8.heap.size) W8.heap.size (some ⟨z, 0, none⟩) k x [(q, p)]) ShR (none, none) (by kernel_rfl) (hS9.next hEn9 (Below.refl _ _).drew) ?_
      clear hS9
      refine v_take ShR.rf ShR.tr 0 (o := _) rfl (by kernel_rfl) (by kernel_rfl) (by kernel_rfl) (.agg (arr h)) (fun _ _ _ h => h) (gv_value (wanted_plain rfl) (fun g1 hg W hW => run_load_arr (by rfl) (by simp [Act.eval]) ty16 h Hh.out (hW.env.h).cells_arr)) ?_
      simp only [Act.put, List.getElem_toArray, List.getElem_cons_succ, List.getElem_cons_zero, List.setIfInBounds_toArray, List.set_cons_zero, List.set_cons_succ]
      refine v_take ShR.rf ShR.tr 1 (o := _) rfl (by kernel_rfl) (by kernel_rfl) (by kernel_rfl) (.slice P1 n1 d1) (fun _ _ _ h => h) (gv_value (wanted_plain rfl) (fun g1 hg W hW => run_move (by rfl) (by simp [Act.eval]) W)) ?_
      simp only [Act.put, List.getElem_toArray, List.getElem_cons_succ, List.getElem_cons_zero, List.setIfInBounds_toArray, List.set_cons_zero, List.set_cons_succ]
      refine v_take ShR.rf ShR.tr 2 (o := _) rfl (by kernel_rfl) (by kernel_rfl) (by kernel_rfl) (.slice (some ⟨z, 0, none⟩) k k) (fun _ _ _ h => h) (gv_value (wanted_plain rfl) (fun g1 hg W hW => run_move (by rfl) (by simp [Act.eval]) W)) ?_
      simp only [Act.put, List.getElem_toArray, List.getElem_cons_succ, List.getElem_cons_zero, List.setIfInBounds_toArray, List.set_cons_zero, List.set_cons_succ]
      refine v_take ShR.rf ShR.tr 4 (o := _) rfl (by kernel_rfl) (by kernel_rfl) (by kernel_rfl) (.agg (arr h)) (fun _ _ _ h => h) (gv_value (wanted_plain rfl) (fun g1 hg W hW => run_load_arr (by rfl) (by simp [Act.eval]) ty16 h Hh.out (hW.env.h).cells_arr)) ?_
      simp only [Act.put, List.getElem_toArray, List.getElem_cons_succ, List.getElem_cons_zero, List.setIfInBounds_toArray, List.set_cons_zero, List.set_cons_succ]
      refine v_take ShR.rf ShR.tr 5 (o := _) rfl (by kernel_rfl) (by kernel_rfl) (by kernel_rfl) (.slice P1 n1 d1) (fun _ _ _ h => h) (gv_value (wanted_plain rfl) (fun g1 hg W hW => run_move (by rfl) (by simp [Act.eval]) W)) ?_
      simp only [Act.put, List.getElem_toArray, List.getElem_cons_succ, List.getElem_cons_zero, List.setIfInBounds_toArray, List.set_cons_zero, List.set_cons_succ]
      refine v_take ShR.rf ShR.tr 6 (o := _) rfl (by kernel_rfl) (by kernel_rfl) (by kernel_rfl) (.int .i64 (k : Int)) (fun _ _ _ h => h) (gv_value (wanted_plain rfl) (fun g1 hg W hW => run_move (by rfl) (by simp [Act.eval]) W)) ?_
      simp only [Act.put, List.getElem_toArray, List.getElem_cons_succ, List.getElem_cons_zero, List.setIfInBounds_toArray, List.set_cons_zero, List.set_cons_succ]
      refine v_take ShR.rf ShR.tr 3 (o := _) rfl (by kernel_rfl) (by kernel_rfl) (by kernel_rfl) (.agg (arr HX)) (fun _ _ _ h => h) (gv_call (wanted_plain rfl) 21 _ _ rfl #[.agg (arr h), .slice P1 n1 d1, .slice (some ⟨z, 0, none⟩) k k] (by simp [Act.eval]) (enter_hash _) (fun g1 hg W hW => ShS.call hEn9 hW (by have hh := hash_any h Hh.out P1 n1 d1 aside (some ⟨z, 0, none⟩) k k x W (hW.env.aside.wide hW.sz) hd1 (hW.x.wide hW.sz) (Nat.le_refl _) (by omega) hk47; rw [HHX.out] at hh; exact hh))) ?_
      simp only [Act.put, List.getElem_toArray, List.getElem_cons_succ, List.getElem_cons_zero, List.setIfInBounds_toArray, List.set_cons_zero, List.set_cons_succ]
      refine v_each (rs := [7, 10]) (by kernel_rfl) (by simp) (fun i hi W hW => ?_)
      rcases (show i = 7 ∨ i = 10 by simpa using hi) with rfl | rfl
      · refine StepV.made hk47 hEn9 (o := _) rfl rfl (.tmp 59) (.tmp 59) (by rfl) (by simp [Act.eval]) (by simp [Act.eval]) hW ?_
        obtain ⟨y, Hy⟩ : ∃ q, Hd (W.heap.size = q) := ⟨_, ⟨rfl⟩⟩
        rw [Hy.out]
        clear hW hi
        simp only [Act.put, List.getElem_toArray, List.getElem_cons_succ, List.getElem_cons_zero, List.setIfInBounds_toArray, List.set_cons_zero, List.set_cons_succ]
        refine v_take ShR.rf ShR.tr 8 (o := _) rfl (by kernel_rfl) (by kernel_rfl) (by kernel_rfl) (.agg (arr HZ)) (fun _ _ _ h => h) (gv_call (wanted_plain rfl) 21 _ _ rfl #[.agg (arr h), .slice P1 n1 d1, .slice (some ⟨y, 0, none⟩) k k] (by simp [Act.eval]) (enter_hash _) (fun g1 hg W hW => ShS.call hEn9 hW (by have hh := hash_any h Hh.out P1 n1 d1 aside (some ⟨y, 0, none⟩) k k (List.replicate k 0) W (hW.env.aside.wide hW.sz) hd1 ((hW.noughts y (hg y rfl)).reads_any.2) (Nat.le_refl _) (by omega) hk47; rw [HHZ.out] at hh; exact hh))) ?_
        simp only [Act.put, List.getElem_toArray, List.getElem_cons_succ, List.getElem_cons_zero, List.setIfInBounds_toArray, List.set_cons_zero, List.set_cons_succ]
        refine v_take ShR.rf ShR.tr 9 (o := _) rfl (by kernel_rfl) (by kernel_rfl) (by kernel_rfl) (.agg (arr p)) (fun _ _ _ h => h) (gv_call (wanted_plain rfl) 20 _ _ rfl #[.agg (arr HX), .agg (arr HZ)] (by simp [Act.eval]) (enter_with8s _) (fun g1 hg W hW => ShS.call hEn9 hW (by have hh := with08_any HX HZ HXl.out HZl.out W; rw [Hqq.out] at hh; exact hh))) ?_
        simp only [Act.put, List.getElem_toArray, List.getElem_cons_succ, List.getElem_cons_zero, List.setIfInBounds_toArray, List.set_cons_zero, List.set_cons_succ]
        refine v_each (rs := [10]) (by kernel_rfl) (by simp) (fun i hi W hW => ?_)
        obtain rfl : i = 10 := by simpa using hi
        refine ⟨_, rfl, wanted_plain rfl, .inl ⟨_, _, (some y, some (W.heap.size, List.replicate 16 0)), run_alloc (by rfl) _ zero16 W, (fun y hy => hy), hW.laid hEn9, ?_⟩⟩
        obtain ⟨u, Hu⟩ : ∃ q, Hd (W.heap.size = q) := ⟨_, ⟨rfl⟩⟩
        rw [Hu.out]
        clear hW hi
        simp only [Act.put, List.getElem_toArray, List.getElem_cons_succ, List.getElem_cons_zero, List.setIfInBounds_toArray, List.set_cons_zero, List.set_cons_succ]
        refine v_each (rs := [11]) (by kernel_rfl) (by simp) (fun i hi W hW => ?_)
        obtain rfl : i = 11 := by simpa using hi
        refine ⟨_, rfl, wanted_plain rfl, .inr ⟨_, (some y, some (u, p)), run_store_arr (by rfl) u p (by simp [Act.eval]) (by simp [Act.eval]) 32 _ (hW.al u _ rfl).2 16 ty16.size Hpl.out (by rw [arr_size, List.length_replicate]), (fun y hy => hy), hW.stored hEn9, ?_⟩⟩
        clear hW hi
        simp only [Act.put, List.getElem_toArray, List.getElem_cons_succ, List.getElem_cons_zero, List.setIfInBounds_toArray, List.set_cons_zero, List.set_cons_succ]
        refine v_done (by kernel_rfl) (fun W8 hW8 => ?_) _
        obtain ⟨_, bq⟩ := hW8.bs (q, p) (by simp)
        obtain ⟨_, bu⟩ := hW8.al u p rfl
        clear hEn9
        obtain ⟨Z, HZ0⟩ : ∃ z, Hd (Gcm.zeros = z) := ⟨_, ⟨rfl⟩⟩
        have HZ0l := hd (show Z.length = 16 by rw [← HZ0.out]; rfl)
        have hbZ : Try.prog.built 32 [] = some (arr Z) := by rw [← HZ0.out]; exact built16
        have Hzz := hd (show Gcm.hash Z aside a = Z by rw [← HZ0.out]; exact Gcm.hash_zero aside a)
        have q1 : ∀ W, (Op.equalIn 10000 32 (.agg (arr p)) (.agg (arr p))).run Try.prog W = .ok true W := fun W => (eq16 p p Hpl.out Hpl.out W).trans (by rw [decide_eq_true rfl])
        have q2 : ∀ W, (Op.equalIn 10000 32 (.agg (arr Z)) (.agg (arr Z))).run Try.prog W = .ok true W := fun W => (eq16 Z Z HZ0l.out HZ0l.out W).trans (by rw [decide_eq_true rfl])
        have hg16 := guard16
        go_wp2_with (first | (refine wpl_valueGs (run_load_arr rfl rfl ty16 p Hpl.out bq.cells_arr) rfl ?_) | (refine wpl_valueGs (run_load_arr rfl rfl ty16 p Hpl.out bu.cells_arr) rfl ?_) | (refine wpl_valueGs (run_build_iss rfl [] rfl hbZ _) rfl ?_) | (go_at_call 21; refine (hash_any Z HZ0l.out P1 n1 d1 aside P2 n2 d2 a _ (hW8.env.aside.wide hW8.sz) hd1 (hW8.env.a.wide hW8.sz) hd2 (by omega) (by omega)).mono ?_; rintro e w9 ⟨rfl, hB9⟩; rw [Hzz.out]))
        go_ret
        exact ⟨rfl, hW8.env.old.trans (hB9.mono hW8.env.old.size)⟩
      · refine ⟨_, rfl, wanted_plain rfl, .inl ⟨_, _, (none, some (W.heap.size, List.replicate 16 0)), run_alloc (by rfl) _ zero16 W, (fun y hy => hy), hW.laid hEn9, ?_⟩⟩
        obtain ⟨u, Hu⟩ : ∃ q, Hd (W.heap.size = q) := ⟨_, ⟨rfl⟩⟩
        rw [Hu.out]
        clear hW hi
        simp only [Act.put, List.getElem_toArray, List.getElem_cons_succ, List.getElem_cons_zero, List.setIfInBounds_toArray, List.set_cons_zero, List.set_cons_succ]
        refine v_each (rs := [7]) (by kernel_rfl) (by simp) (fun i hi W hW => ?_)
        obtain rfl : i = 7 := by simpa using hi
        refine StepV.made hk47 hEn9 (o := _) rfl rfl (.tmp 59) (.tmp 59) (by rfl) (by simp [Act.eval]) (by simp [Act.eval]) hW ?_
        obtain ⟨y, Hy⟩ : ∃ q, Hd (W.heap.size = q) := ⟨_, ⟨rfl⟩⟩
        rw [Hy.out]
        clear hW hi
        simp only [Act.put, List.getElem_toArray, List.getElem_cons_succ, List.getElem_cons_zero, List.setIfInBounds_toArray, List.set_cons_zero, List.set_cons_succ]
        refine v_take ShR.rf ShR.tr 8 (o := _) rfl (by kernel_rfl) (by kernel_rfl) (by kernel_rfl) (.agg (arr HZ)) (fun _ _ _ h => h) (gv_call (wanted_plain rfl) 21 _ _ rfl #[.agg (arr h), .slice P1 n1 d1, .slice (some ⟨y, 0, none⟩) k k] (by simp [Act.eval]) (enter_hash _) (fun g1 hg W hW => ShS.call hEn9 hW (by have hh := hash_any h Hh.out P1 n1 d1 aside (some ⟨y, 0, none⟩) k k (List.replicate k 0) W (hW.env.aside.wide hW.sz) hd1 ((hW.noughts y (hg y rfl)).reads_any.2) (Nat.le_refl _) (by omega) hk47; rw [HHZ.out] at hh; exact hh))) ?_
        simp only [Act.put, List.getElem_toArray, List.getElem_cons_succ, List.getElem_cons_zero, List.setIfInBounds_toArray, List.set_cons_zero, List.set_cons_succ]
        refine v_take ShR.rf ShR.tr 9 (o := _) rfl (by kernel_rfl) (by kernel_rfl) (by kernel_rfl) (.agg (arr p)) (fun _ _ _ h => h) (gv_call (wanted_plain rfl) 20 _ _ rfl #[.agg (arr HX), .agg (arr HZ)] (by simp [Act.eval]) (enter_with8s _) (fun g1 hg W hW => ShS.call hEn9 hW (by have hh := with08_any HX HZ HXl.out HZl.out W; rw [Hqq.out] at hh; exact hh))) ?_
        simp only [Act.put, List.getElem_toArray, List.getElem_cons_succ, List.getElem_cons_zero, List.setIfInBounds_toArray, List.set_cons_zero, List.set_cons_succ]
        refine v_each (rs := [11]) (by kernel_rfl) (by simp) (fun i hi W hW => ?_)
        obtain rfl : i = 11 := by simpa using hi
        refine ⟨_, rfl, wanted_plain rfl, .inr ⟨_, (some y, some (u, p)), run_store_arr (by rfl) u p (by simp [Act.eval]) (by simp [Act.eval]) 32 _ (hW.al u _ rfl).2 16 ty16.size Hpl.out (by rw [arr_size, List.length_replicate]), (fun y hy => hy), hW.stored hEn9, ?_⟩⟩
        clear hW hi
        simp only [Act.put, List.getElem_toArray, List.getElem_cons_succ, List.getElem_cons_zero, List.setIfInBounds_toArray, List.set_cons_zero, List.set_cons_succ]
        refine v_done (by kernel_rfl) (fun W8 hW8 => ?_) _
        obtain ⟨_, bq⟩ := hW8.bs (q, p) (by simp)
        obtain ⟨_, bu⟩ := hW8.al u p rfl
        clear hEn9
        obtain ⟨Z, HZ0⟩ : ∃ z, Hd (Gcm.zeros = z) := ⟨_, ⟨rfl⟩⟩
        have HZ0l := hd (show Z.length = 16 by rw [← HZ0.out]; rfl)
        have hbZ : Try.prog.built 32 [] = some (arr Z) := by rw [← HZ0.out]; exact built16
        have Hzz := hd (show Gcm.hash Z aside a = Z by rw [← HZ0.out]; exact Gcm.hash_zero aside a)
        have q1 : ∀ W, (Op.equalIn 10000 32 (.agg (arr p)) (.agg (arr p))).run Try.prog W = .ok true W := fun W => (eq16 p p Hpl.out Hpl.out W).trans (by rw [decide_eq_true rfl])
        have q2 : ∀ W, (Op.equalIn 10000 32 (.agg (arr Z)) (.agg (arr Z))).run Try.prog W = .ok true W := fun W => (eq16 Z Z HZ0l.out HZ0l.out W).trans (by rw [decide_eq_true rfl])
        have hg16 := guard16
        go_wp2_with (first | (refine wpl_valueGs (run_load_arr rfl rfl ty16 p Hpl.out bq.cells_arr) rfl ?_) | (refine wpl_valueGs (run_load_arr rfl rfl ty16 p Hpl.out bu.cells_arr) rfl ?_) | (refine wpl_valueGs (run_build_iss rfl [] rfl hbZ _) rfl ?_) | (go_at_call 21; refine (hash_any Z HZ0l.out P1 n1 d1 aside P2 n2 d2 a _ (hW8.env.aside.wide hW8.sz) hd1 (hW8.env.a.wide hW8.sz) hd2 (by omega) (by omega)).mono ?_; rintro e w9 ⟨rfl, hB9⟩; rw [Hzz.out]))
        go_ret
        exact ⟨rfl, hW8.env.old.trans (hB9.mono hW8.env.old.size)⟩
end Go.Proofs.Ytbbfckdcfbacpaa
