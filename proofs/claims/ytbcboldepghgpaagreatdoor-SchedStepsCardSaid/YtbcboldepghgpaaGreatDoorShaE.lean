/-
  A digest in memory, and the walk of Write.
-/
import Derived.Test.YtbcboldepghgpaaGreatDoorShaD
import Derived.Test.YtbcboldepghgpaaGreatDoorHeldB
set_option linter.unusedVariables false
set_option linter.unusedSimpArgs false
set_option maxRecDepth 100000
namespace Go.Proofs.YtbcboldepghgpaaGreatDoor
open Go.RowKit
theorem Kept.mono {B B' g : Nat} {w w' : World} (h : Kept B g w w') (hB : B' ≤ B) : Kept B' g w w' := ⟨h.os, h.tape, h.output, h.size, fun k hk hg => h.block k (by omega) hg⟩
/-- How many bytes a digest's rest has. -/
def lenAt (g : Nat) (w : World) : Nat := match w.cell? ⟨g, 17, none⟩ with
  | some (.slice _ n _) => n
  | _ => 0
/-- A region's end, said once for all orders. -/
theorem region_partF {P : Program} {c : Code} {Q : Exit → Act → World → Prop} {a : Act} {w : World} {γ : Type} (R : γ → Act → World → Prop) (F : γ) (h1 : c.wp P (fun e a' w' => match e with | .normal => R F a' w' | _ => False) a w) (h2 : ∀ a' w', R F a' w' → Q .normal a' w') : c.wp P Q a w :=
  Code.wp_mono (fun e a w h => by cases e <;> first | exact h2 a w h | exact h.elim) h1
theorem lenAt_is {g n c : Nat} {A : Option Addr} {w : World} (h : w.cell? ⟨g, 17, none⟩ = some (.slice A n c)) : lenAt g w = n := by unfold lenAt; rw [h]
/-- The cells of a digest. -/
def dig (h : Int) (a : List UInt32) (b : List UInt64) (rest : Value) (n : UInt64) : Array Value := #[Value.int .i64 h] ++ arr32 a ++ arr64 b ++ #[rest, .int .u64 ((n64 n : Nat) : Int)]
section
variable {h : Int} {a : List UInt32} {b : List UInt64} {rest rest' : Value} {n n' : UInt64}
theorem dig_pre (ha : a.length = 8) (hb : b.length = 8) : (#[Value.int .i64 h] ++ arr32 a ++ arr64 b).size = 17 := by
  rw [Array.size_append, Array.size_append, arr32_size, arr64_size, ha, hb]; rfl
theorem dig_h : (dig h a b rest n)[0]? = some (.int .i64 h) := by
  unfold dig
  rw [Array.append_assoc, Array.append_assoc, Array.getElem?_append_left (by simp)]
  rfl
theorem dig_rest (ha : a.length = 8) (hb : b.length = 8) : (dig h a b rest n)[17]? = some rest := by
  unfold dig
  rw [Array.getElem?_append_right (by rw [dig_pre ha hb]; omega), dig_pre ha hb]; rfl
theorem dig_n (ha : a.length = 8) (hb : b.length = 8) : (dig h a b rest n)[18]? = some (.int .u64 ((n64 n : Nat) : Int)) := by
  unfold dig
  rw [Array.getElem?_append_right (by rw [dig_pre ha hb]; omega), dig_pre ha hb]; rfl
theorem dig_set_rest (ha : a.length = 8) (hb : b.length = 8) : (dig h a b rest n).setIfInBounds 17 rest' = dig h a b rest' n := by
  unfold dig
  rw [Array.setIfInBounds_append_right (by rw [dig_pre ha hb]; omega), dig_pre ha hb]; rfl
theorem dig_set_n (ha : a.length = 8) (hb : b.length = 8) : (dig h a b rest n).setIfInBounds 18 (.int .u64 ((n64 n' : Nat) : Int)) = dig h a b rest n' := by
  unfold dig
  rw [Array.setIfInBounds_append_right (by rw [dig_pre ha hb]; omega), dig_pre ha hb]; rfl
theorem dig_32 : dig h a b rest n = #[Value.int .i64 h] ++ arr32 a ++ (arr64 b ++ #[rest, .int .u64 ((n64 n : Nat) : Int)]) := by
  unfold dig; rw [Array.append_assoc]
end
theorem blockSize_23 (hh : Int) (h : hh = 2 ∨ hh = 3) (w : World) : Calls Tryz.prog 62 #[.int .i64 hh] w fun e w' => e = .returned (.int .i64 128) ∧ w = w' := by
  rcases h with rfl | rfl
  · exact blockSize_2 w
  · exact blockSize_3 w
theorem field_dig (z i o : Nat) (h : (i, o) = (0, 0) ∨ (i, o) = (1, 1) ∨ (i, o) = (2, 9) ∨ (i, o) = (3, 17) ∨ (i, o) = (4, 18)) (w : World) : (Instr.fieldAt 70 (.pointer (some ⟨z, 0, none⟩)) i).run Tryz.prog w = .ok (.pointer (some ⟨z, o, none⟩)) w := by
  rcases h with h | h | h | h | h <;> (injection h with h1 h2; subst h1; subst h2; kernel_rfl)
theorem run_nilCheck {P : Program} {w : World} {o : Oper} {ρ : Operand → Value} {x : Operand} (ho : o.op = .nilCheck x) {ad : Addr} (hx : ρ x = .pointer (some ad)) : (execOp ρ o).run P w = .ok (.value (.pointer (some ad))) w := by
  unfold execOp
  simp only [ho, hx]
  simp [go_sem]
theorem run_load_sl (ad : Addr) (v : Value) (w : World) (h : w.cell? ad = some v) : (loadVar 25 ad).run Tryz.prog w = .ok v w := by
  simp [loadVar, go_sem, h]
theorem run_slice_to {P : Program} {w : World} {o : Oper} {ρ : Operand → Value} {t e : TypeId} {x y : Operand} (ho : o.op = .slice t x none (some y) none) (ht : P.underlying t = some (.slice e)) {m : Nat} (hs : (P.info? e).map (·.size) = some m) (D : Option Addr) (k d n : Nat)
    (hx : ρ x = .slice D k d) (hy : ρ y = .int .i64 (n : Int)) (hn : n ≤ d) : (execOp ρ o).run P w = .ok (.value (.slice D n d)) w := by
  have h2 : (n : Int) ≤ (d : Int) := by omega
  have h3 : (0 : Int) ≤ (n : Int) := by omega
  unfold execOp
  simp only [ho, hx, hy]
  simp [go_sem, Instr.sliceAt, Instr.slice, Instr.sliceBounds, Instr.sliceBound, run_underlying ht, run_sizeOf hs, hy, h2, h3, hn, asIntOf, Addr.add_zero']
theorem u8_one3 : (Tryz.prog.info? 5).map (·.size) = some 1 := by kernel_rfl
theorem run_build_ps {P : Program} {o : Oper} {ρ : Operand → Value} {t : TypeId} {parts : List (Nat × Operand)} (ho : o.op = .build t parts.toArray) (ps : List (Nat × Value)) (hp : parts.map (fun p => (p.1, ρ p.2)) = ps) {cells : Array Value} (hb : P.built t ps = some cells) (w : World) :
    (execOp ρ o).run P w = .ok (.value (.agg cells)) w := by
  have e : (parts.toArray.map fun (i, x) => (i, ρ x)).toList = ps := by rw [← hp]; simp
  unfold execOp
  simp only [ho, Sem.run_bind, run_build w t _ cells (e ▸ hb), Result.andThen_ok, Sem.run_pure]
theorem built3_32 : Tryz.prog.built 90 [(0, .int .i64 7), (1, .int .i64 18), (2, .int .i64 3)] = some (three 7 18 3) ∧ Tryz.prog.built 90 [(0, .int .i64 17), (1, .int .i64 19), (2, .int .i64 10)] = some (three 17 19 10) ∧ Tryz.prog.built 90 [(0, .int .i64 2), (1, .int .i64 13), (2, .int .i64 22)] = some (three 2 13 22) ∧ Tryz.prog.built 90 [(0, .int .i64 6), (1, .int .i64 11), (2, .int .i64 25)] = some (three 6 11 25) := ⟨by kernel_rfl, by kernel_rfl, by kernel_rfl, by kernel_rfl⟩
theorem builtKind32 : Tryz.prog.built 92 [(0, .int .i64 32), (1, .agg (three 7 18 3)), (2, .agg (three 17 19 10)), (3, .agg (three 2 13 22)), (4, .agg (three 6 11 25))] = some kind32 := by kernel_rfl
theorem run_sliceTab32 {w : World} {o : Oper} {ρ : Operand → Value} {x : Operand} (ho : o.op = .slice 89 x none none none) (hx : ρ x = .pointer (some ⟨0, 0, none⟩)) : (execOp ρ o).run Tryz.prog w = .ok (.value (.slice (some ⟨0, 0, none⟩) 64 64)) w := by
  have hs : (Tryz.prog.info? 66).map (·.size) = some 1 := by kernel_rfl
  unfold execOp
  simp only [ho, hx]
  simp [go_sem, Instr.sliceAt, Instr.slice, Instr.sliceBounds, Instr.sliceBound, run_underlying Tryz.underlying89, run_sizeOf hs, asIntOf, Addr.add_zero']
theorem enter_words32 (args : Array Value) (w : World) : (callFunc 66 args).run Tryz.prog w = .ok (.enter 66 args) w := by kernel_rfl
theorem enter_blocked32 (args : Array Value) (w : World) : (callFunc 65 args).run Tryz.prog w = .ok (.enter 65 args) w := by kernel_rfl
/-- What Write's loop keeps: the digest's cells, the bytes at hand, the table. -/
structure WrS32 (w : World) (g : Nat) (cs : Array Value) (A : Option Addr) (r : Nat) (l : List UInt8) (W : World) : Prop where
  dg : Blk W g 70 cs
  rd : ReadsB W W.heap.size A r l
  tb : Blk W 0 89 (arr32 Sha32.K)
  kept : Kept w.heap.size g w W
section
variable {w : World} {g : Nat} {cs : Array Value} {A : Option Addr} {r : Nat} {l : List UInt8} {W w' : World}
theorem WrS32.next (h : WrS32 w g cs A r l W) (hb : Below W.heap.size W w') : WrS32 w g cs A r l w' :=
  ⟨h.dg.below hb h.dg.lt, ⟨h.rd.len, (h.rd.is.below hb).more hb.size⟩, h.tb.below hb h.tb.lt, h.kept.trans (below_kept hb h.kept.size)⟩
end
/-- .. whatever the state is. -/
def WrT32 (w : World) (g : Nat) (z0 : List UInt64) (rest : Value) (N : UInt64) (A : Option Addr) (r : Nat) (l : List UInt8) (W : World) : Prop := ∃ st : List UInt32, st.length = 8 ∧ WrS32 w g (dig 1 (st) z0 rest N) A r l W
theorem reads_kept32 {w w' : World} {B g n : Nat} {A : Option Addr} {l : List UInt8} (h : ReadsB w B A n l) (hk : Kept B g w w') (hne : ∀ ad, A = some ad → ad.block ≠ g) : ReadsB w' B A n l :=
  ⟨h.len, h.is.1, fun hn => by
    obtain ⟨ad, e, hb, hc⟩ := h.is.2 hn
    exact ⟨ad, e, hb, fun j u hu => by rw [← hc j u hu]; exact World.cell?_of_block (hk.block _ (by rw [block_of_add]; exact hb) (by rw [block_of_add]; exact hne ad e))⟩⟩
theorem reads_kept032 {w w' : World} {B g n : Nat} {A : Option Addr} {l : List UInt8} (h : ReadsB w B A n l) (hk : Kept B g w w') (hne : 0 < n → ∀ ad, A = some ad → ad.block ≠ g) : ReadsB w' B A n l := by
  rcases Nat.eq_zero_or_pos n with h0 | h0
  · exact ⟨h.len, h.is.1, fun hn => absurd hn (by omega)⟩
  · exact reads_kept32 h hk (hne h0)
theorem wrNext32 {w w6 : World} {g : Nat} {Zp : Nat → Prop} {st : List UInt32} {z0 : List UInt64} {N : UInt64} {A' : Option Addr} {r' c' : Nat} {l : List UInt8} (hst : st.length = 8) (hz : z0.length = 8) (hS : WrS32 w g (dig 1 (st) z0 (.slice A' r' c') N) A' r' l w6) (hge : 64 ≤ r') (hrc : r' ≤ c') (hne : ∀ ad, A' = some ad → ad.block ≠ g ∧ Zp ad.block) (hgk : 0 ≠ g) (A2 : Option Addr) (hA2 : A2 = if c' = 64 then A' else A'.map (·.add 64)) :
    WrS32 w g (dig 1 (st) z0 (.slice A2 (r' - 64) (c' - 64)) N) A2 (r' - 64) (l.drop 64) (w6.setCell ⟨g, 17, none⟩ (.slice A2 (r' - 64) (c' - 64))) ∧ (A2 = none → A' = none) ∧ (∀ ad, A2 = some ad → ad.block ≠ g ∧ Zp ad.block) := by
  have hne2 : ∀ ad, A2 = some ad → ad.block ≠ g ∧ Zp ad.block := fun ad e => by
    rw [hA2] at e
    split at e
    · exact hne ad e
    · cases A' with
      | none => cases e
      | some b =>
        injection e with e
        subst e
        rw [block_of_add]; exact hne b rfl
  have hnone : A2 = none → A' = none := fun e => by
    rw [hA2] at e
    split at e
    · exact e
    · cases A' with
      | none => rfl
      | some b => cases e
  have hK : Kept w6.heap.size g w6 (w6.setCell ⟨g, 17, none⟩ (.slice A2 (r' - 64) (c' - 64))) := grown_kept (grew_setCell (World.grownBy.refl w6 (some g)) 17 _) (fun k hk => .inr (by injection hk with hk; exact hk.symm)) (Nat.le_refl _)
  have hdg := hS.dg.set_ 17 (.slice A2 (r' - 64) (c' - 64))
  rw [dig_set_rest hst hz] at hdg
  have hR := hS.rd.drop (k := 64) hge hrc
  rw [← hA2] at hR
  have hh := reads_kept32 hR hK (fun ad e => (hne2 ad e).1)
  exact ⟨⟨hdg, ⟨hh.len, hh.is.more hK.size⟩, hS.tb.kept hK hS.tb.lt hgk, hS.kept.trans (hK.mono hS.kept.size)⟩, hnone, hne2⟩
set_option maxHeartbeats 8000000 in
set_option maxRecDepth 100000 in
theorem write32_any (g : Nat) (Zp : Nat → Prop) (s : List UInt32) (z0 : List UInt64) (hs : s.length = 8) (hz : z0.length = 8) (N : UInt64) (A : Option Addr) (r c : Nat) (l : List UInt8) (D : Option Addr) (n d : Nat) (t : List UInt8) (w : World) (hdg : Blk w g 70 (dig 1 s z0 (.slice A r c) N)) (hrd : ReadsB w w.heap.size A r l) (hrc : r ≤ c) (hA : A = none → r = 0) (hneA : 0 < r → ∀ ad, A = some ad → ad.block ≠ g ∧ Zp ad.block) (hZ : ∀ b, w.heap.size ≤ b → Zp b)
    (htb : Blk w 0 89 (arr32 Sha32.K)) (ht : ReadsB w w.heap.size D n t) (hneD : 0 < n → ∀ ad, D = some ad → ad.block ≠ g) (hlen : r + n ≤ 140737488355328) :
    Calls Tryz.prog 50 #[.pointer (some ⟨g, 0, none⟩), .slice D n d] w fun e w' => e = .returned (.tuple #[]) ∧ w.grownBy w' (some g) ∧ ∃ A' r' c', Blk w' g 70 (dig 1 (Sha32.feed ((r + n) / 64) (l ++ t) s) z0 (.slice A' r' c') (N + UInt64.ofNat n)) ∧ ReadsB w' w'.heap.size A' r' ((l ++ t).drop (64 * ((r + n) / 64))) ∧ r' ≤ c' ∧ (A' = none → r' = 0) ∧ (0 < r' → ∀ ad, A' = some ad → ad.block ≠ g ∧ Zp ad.block) ∧ r' = (r + n) % 64 := by
  have Hs := hd hs
  have Hz := hd hz
  clear hs hz
  
  have hglt := hdg.lt
  have hgk : 0 ≠ g := htb.ne_ hdg (by decide)
  have w1 : IntKind.u64.wrap (n : Int) = ((n64 (UInt64.ofNat n) : Nat) : Int) := by rw [wrap_n64, BitVec.ofInt_natCast]; rfl
  obtain ⟨N2, HN2⟩ : ∃ x, Hd (N + UInt64.ofNat n = x) := ⟨_, ⟨rfl⟩⟩
  have c0 : w.cell? ⟨g, 0, none⟩ = some (.int .i64 1) := (hdg.cell 0).trans dig_h
  have c18 : w.cell? ⟨g, 18, none⟩ = some (.int .u64 ((n64 N : Nat) : Int)) := (hdg.cell 18).trans (dig_n Hs.out Hz.out)
  have f18 := hdg.frozen 18
  have hdg1 := hdg.set_ 18 (.int .u64 ((n64 (N + UInt64.ofNat n) : Nat) : Int))
  rw [dig_set_n Hs.out Hz.out] at hdg1
  have hK1 : Kept w.heap.size g w (w.setCell ⟨g, 18, none⟩ (.int .u64 ((n64 (N + UInt64.ofNat n) : Nat) : Int))) := grown_kept (grew_setCell (World.grownBy.refl w (some g)) 18 _) (fun k hk => .inr (by injection hk with hk; exact hk.symm)) (Nat.le_refl _)
  have c0' : (w.setCell ⟨g, 18, none⟩ (.int .u64 ((n64 (N + UInt64.ofNat n) : Nat) : Int))).cell? ⟨g, 0, none⟩ = some (.int .i64 1) := (hdg1.cell 0).trans dig_h
  go_enter Tryz.func50, Tryz.ntmps50
  go_wp2_with (go_at_call 62; refine (blockSize_1 _).mono ?_; rintro e w3 ⟨rfl, rfl⟩)
  refine wp_name (fun wo => Blk wo g 70 (dig 1 s z0 (.slice A r c) N2) ∧ Kept w.heap.size g w wo) ⟨by rw [← HN2.out]; exact hdg1, hK1⟩ ?_
  clear c0 c18 f18 hdg1 hK1 c0' w1
  rintro w1 ⟨hdg1, hK1⟩
  have c17 : w1.drew.cell? ⟨g, 17, none⟩ = some (.slice A r c) := (hdg1.drew.cell 17).trans (dig_rest Hs.out Hz.out)
  have v1 : (r : Int) ≤ (c : Int) := by omega
  have f17 := hdg1.drew.frozen 17
  have hr1 : ReadsB w1.drew w.heap.size A r l := (reads_kept032 hrd hK1 (fun h0 ad e => (hneA h0 ad e).1)).drew
  have ht1 : ReadsB w1.drew w.heap.size D n t := (reads_kept032 ht hK1 hneD).drew
  have hBs : w.heap.size ≤ w1.drew.heap.size := hK1.size
  apply region_partF (R := fun (F : Option Addr → Nat → Act) a' w' => ∃ A2 c2 w2, ReadsB w2 w2.heap.size A2 (r + n) (l ++ t) ∧ r + n ≤ c2 ∧ (A2 = none → r + n = 0) ∧ w1.drew.grownBy w2 none ∧ (∀ b, A2 = some b → (A = some b ∧ n = 0) ∨ w1.drew.heap.size ≤ b.block) ∧ a' = F A2 c2 ∧ w' = w2.setCell ⟨g, 17, none⟩ (.slice A2 (r + n) c2))
  · go_region_law (first | (refine step_appendR (by rfl) _ _ (by rfl) (by rfl) (by rfl) hr1 hA ht1 hlen hBs ?_; intro A2 c2 w2 hr2 hc2 hA2 gr2 hn2; have hdg2 := hdg1.drew.grown gr2 (by simp); have f17b := hdg2.frozen 17; have c17b := (hdg2.cell 17).trans (dig_rest Hs.out Hz.out)))
    all_goals exact ⟨A2, c2, w2, hr2, hc2, hA2, gr2, hn2, rfl, rfl⟩
  · rintro a2 w2' ⟨A2, c2, w2, hr2, hc2, hA2, gr2, hn2, rfl, rfl⟩
    have hdg2 := hdg1.drew.grown gr2 (by simp)
    clear c17 f17 hr1 ht1
    have hneA2 : 0 < r + n → ∀ ad, A2 = some ad → ad.block ≠ g ∧ Zp ad.block := fun h0 ad e => by
      rcases hn2 ad e with h | h
      · exact hneA (by omega) ad h.1
      · have hfr : w.heap.size ≤ ad.block := Nat.le_trans hBs h
        exact ⟨by omega, hZ _ hfr⟩
    have hdg3 := hdg2.set_ 17 (.slice A2 (r + n) c2)
    rw [dig_set_rest Hs.out Hz.out] at hdg3
    have hK2 : Kept w2.heap.size g w2 (w2.setCell ⟨g, 17, none⟩ (.slice A2 (r + n) c2)) := grown_kept (grew_setCell (World.grownBy.refl w2 (some g)) 17 _) (fun k hk => .inr (by injection hk with hk; exact hk.symm)) (Nat.le_refl _)
    have hw12 : Kept w.heap.size g w w2 := (hK1.trans (below_kept (Below.refl w.heap.size w1).drew (Nat.le_refl _))).trans (grown_kept gr2 (fun k hk => by cases hk) hBs)
    have hS0 : WrS32 w g (dig 1 s z0 (.slice A2 (r + n) c2) N2) A2 (r + n) (l ++ t) (w2.setCell ⟨g, 17, none⟩ (.slice A2 (r + n) c2)) := by
      have hh := reads_kept032 hr2 hK2 (fun h0 ad e => (hneA2 h0 ad e).1)
      have hK3 : Kept w.heap.size g w2 (w2.setCell ⟨g, 17, none⟩ (.slice A2 (r + n) c2)) := ⟨hK2.os, hK2.tape, hK2.output, hK2.size, fun k hk hg => hK2.block k (by have := hw12.size; omega) hg⟩
      have hK4 := hw12.trans hK3
      exact ⟨hdg3, ⟨hh.len, hh.is.more hK2.size⟩, htb.kept hK4 htb.lt hgk, hK4⟩
    clear hK2 hdg2 hdg3 hr2 hw12 gr2 hdg1 hK1 hBs hn2
    have hlen2 := (hS0.rd).len
    go_wp2
    go_loopw [] (fun wr => ∃ (j : Nat) (A' : Option Addr) (r' c' : Nat), 64 * j ≤ r + n ∧ WrS32 w g (dig 1 (Sha32.feed j (l ++ t) s) z0 (.slice A' r' c') N2) A' r' ((l ++ t).drop (64 * j)) wr ∧ r' ≤ c' ∧ (A' = none → r' = 0) ∧ (0 < r' → ∀ ad, A' = some ad → ad.block ≠ g ∧ Zp ad.block) ∧ r' = (r + n) - 64 * j) (fun wr => lenAt g wr)
    case atStart => exact ⟨0, A2, r + n, c2, by omega, by rw [Nat.mul_zero, List.drop_zero]; exact hS0, hc2, hA2, hneA2, by omega⟩
    case round =>
      clear hS0
      obtain ⟨j, A', r', c', hj, hS, hrc', hA', hne', hr'⟩ := hrel
      obtain ⟨st, Hst⟩ : ∃ y, Hd (Sha32.feed j (l ++ t) s = y) := ⟨_, ⟨rfl⟩⟩
      rw [Hst.out] at hS
      have Hstl := hd (show st.length = 8 by rw [← Hst.out, Sha32.feed_len, Hs.out])
      have Hr := hd hr'
      clear hr'
      have c17 : wr.cell? ⟨g, 17, none⟩ = some (.slice A' r' c') := (hS.dg.cell 17).trans (dig_rest Hstl.out Hz.out)
      have c0 : wr.cell? ⟨g, 0, none⟩ = some (.int .i64 1) := (hS.dg.cell 0).trans dig_h
      have Hm := hd (lenAt_is c17)
      by_cases hge : 64 ≤ r'
      · have tk : (64 : Int) ≤ (r' : Int) := by omega
        go_wp2
        obtain ⟨x, Hx⟩ : ∃ y, Hd (((l ++ t).drop (64 * j)).take 64 = y) := ⟨_, ⟨rfl⟩⟩
        have Hnx := hd (show Sha32.feed (j + 1) (l ++ t) s = Sha32.block st (Sha32.words x) by rw [Sha32.feed_snoc, Hst.out, Hx.out])
        have hT0 : WrT32 w g z0 (.slice A' r' c') N2 A' r' ((l ++ t).drop (64 * j)) wr := ⟨st, Hstl.out, hS⟩
        have hSd := hS.next (Below.refl wr.heap.size wr).drew
        refine wp_region_held_drew (S := WrT32 w g z0 (.slice A' r' c') N2 A' r' ((l ++ t).drop (64 * j))) (by kernel_rfl) ⟨st, Hstl.out, hSd⟩ ?_
        intro hT1
        clear hT0 hS c17 c0
        refine held_take 0 (o := _) rfl (by kernel_rfl) (by kernel_rfl) (by kernel_rfl) rfl (.pointer (some ⟨g, 0, none⟩)) (fun _ _ _ h => h) (fun W hW => run_move (by rfl) (by simp [Act.eval]) W) (by assumption) ?_
        simp only [Act.put, List.getElem_toArray, List.getElem_cons_succ, List.getElem_cons_zero, List.setIfInBounds_toArray, List.set_cons_zero, List.set_cons_succ]
        refine held_take 1 (o := _) rfl (by kernel_rfl) (by kernel_rfl) (by kernel_rfl) rfl (.pointer (some ⟨g, 0, none⟩)) (fun _ _ _ h => h) (fun W hW => run_nilCheck (by rfl) (by simp [Act.eval])) (by assumption) ?_
        simp only [Act.put, List.getElem_toArray, List.getElem_cons_succ, List.getElem_cons_zero, List.setIfInBounds_toArray, List.set_cons_zero, List.set_cons_succ]
        refine held_take 2 (o := _) rfl (by kernel_rfl) (by kernel_rfl) (by kernel_rfl) rfl (.pointer (some ⟨g, 1, none⟩)) (fun _ _ _ h => h) (fun W hW => run_fieldAddr (by rfl) (by simp [Act.eval]) (field_dig g 1 1 (by simp))) (by assumption) ?_
        simp only [Act.put, List.getElem_toArray, List.getElem_cons_succ, List.getElem_cons_zero, List.setIfInBounds_toArray, List.set_cons_zero, List.set_cons_succ]
        refine held_take 3 (o := _) rfl (by kernel_rfl) (by kernel_rfl) (by kernel_rfl) rfl (.pointer (some ⟨g, 0, none⟩)) (fun _ _ _ h => h) (fun W hW => run_move (by rfl) (by simp [Act.eval]) W) (by assumption) ?_
        simp only [Act.put, List.getElem_toArray, List.getElem_cons_succ, List.getElem_cons_zero, List.setIfInBounds_toArray, List.set_cons_zero, List.set_cons_succ]
        refine held_take 4 (o := _) rfl (by kernel_rfl) (by kernel_rfl) (by kernel_rfl) rfl (.pointer (some ⟨g, 0, none⟩)) (fun _ _ _ h => h) (fun W hW => run_nilCheck (by rfl) (by simp [Act.eval])) (by assumption) ?_
        simp only [Act.put, List.getElem_toArray, List.getElem_cons_succ, List.getElem_cons_zero, List.setIfInBounds_toArray, List.set_cons_zero, List.set_cons_succ]
        refine held_take 5 (o := _) rfl (by kernel_rfl) (by kernel_rfl) (by kernel_rfl) rfl (.pointer (some ⟨g, 17, none⟩)) (fun _ _ _ h => h) (fun W hW => run_fieldAddr (by rfl) (by simp [Act.eval]) (field_dig g 3 17 (by simp))) (by assumption) ?_
        simp only [Act.put, List.getElem_toArray, List.getElem_cons_succ, List.getElem_cons_zero, List.setIfInBounds_toArray, List.set_cons_zero, List.set_cons_succ]
        refine held_take 6 (o := _) rfl (by kernel_rfl) (by kernel_rfl) (by kernel_rfl) rfl (.slice A' r' c') (fun _ _ _ h => h) (fun W hW => run_execOp_load (by rfl) (by simp [Act.eval]) (run_load_sl ⟨g, 17, none⟩ _ W (by obtain ⟨st', hl', hW'⟩ := hW; exact (hW'.dg.cell 17).trans (dig_rest hl' Hz.out)))) (by assumption) ?_
        simp only [Act.put, List.getElem_toArray, List.getElem_cons_succ, List.getElem_cons_zero, List.setIfInBounds_toArray, List.set_cons_zero, List.set_cons_succ]
        refine held_take 7 (o := _) rfl (by kernel_rfl) (by kernel_rfl) (by kernel_rfl) rfl (.slice A' 64 c') (fun _ _ _ h => h) (fun W hW => run_slice_to (by rfl) Tryz.underlying25 u8_one3 A' r' c' 64 (by simp [Act.eval]) (by simp [Act.eval]) (by omega)) (by assumption) ?_
        simp only [Act.put, List.getElem_toArray, List.getElem_cons_succ, List.getElem_cons_zero, List.setIfInBounds_toArray, List.set_cons_zero, List.set_cons_succ]
        refine held_take 9 (o := _) rfl (by kernel_rfl) (by kernel_rfl) (by kernel_rfl) rfl (.slice (some ⟨0, 0, none⟩) 64 64) (fun _ _ _ h => h) (fun W hW => run_sliceTab32 (by rfl) (by rfl)) (by assumption) ?_
        simp only [Act.put, List.getElem_toArray, List.getElem_cons_succ, List.getElem_cons_zero, List.setIfInBounds_toArray, List.set_cons_zero, List.set_cons_succ]
        refine held_take 10 (o := _) rfl (by kernel_rfl) (by kernel_rfl) (by kernel_rfl) rfl (.agg (three 7 18 3)) (fun _ _ _ h => h) (fun W hW => run_build_ps (parts := [(0, .const (.int .i64 7)), (1, .const (.int .i64 18)), (2, .const (.int .i64 3))]) (by rfl) [(0, .int .i64 7), (1, .int .i64 18), (2, .int .i64 3)] (by rfl) built3_32.1 W) (by assumption) ?_
        simp only [Act.put, List.getElem_toArray, List.getElem_cons_succ, List.getElem_cons_zero, List.setIfInBounds_toArray, List.set_cons_zero, List.set_cons_succ]
        refine held_take 11 (o := _) rfl (by kernel_rfl) (by kernel_rfl) (by kernel_rfl) rfl (.agg (three 17 19 10)) (fun _ _ _ h => h) (fun W hW => run_build_ps (parts := [(0, .const (.int .i64 17)), (1, .const (.int .i64 19)), (2, .const (.int .i64 10))]) (by rfl) [(0, .int .i64 17), (1, .int .i64 19), (2, .int .i64 10)] (by rfl) built3_32.2.1 W) (by assumption) ?_
        simp only [Act.put, List.getElem_toArray, List.getElem_cons_succ, List.getElem_cons_zero, List.setIfInBounds_toArray, List.set_cons_zero, List.set_cons_succ]
        refine held_take 12 (o := _) rfl (by kernel_rfl) (by kernel_rfl) (by kernel_rfl) rfl (.agg (three 2 13 22)) (fun _ _ _ h => h) (fun W hW => run_build_ps (parts := [(0, .const (.int .i64 2)), (1, .const (.int .i64 13)), (2, .const (.int .i64 22))]) (by rfl) [(0, .int .i64 2), (1, .int .i64 13), (2, .int .i64 22)] (by rfl) built3_32.2.2.1 W) (by assumption) ?_
        simp only [Act.put, List.getElem_toArray, List.getElem_cons_succ, List.getElem_cons_zero, List.setIfInBounds_toArray, List.set_cons_zero, List.set_cons_succ]
        refine held_take 13 (o := _) rfl (by kernel_rfl) (by kernel_rfl) (by kernel_rfl) rfl (.agg (three 6 11 25)) (fun _ _ _ h => h) (fun W hW => run_build_ps (parts := [(0, .const (.int .i64 6)), (1, .const (.int .i64 11)), (2, .const (.int .i64 25))]) (by rfl) [(0, .int .i64 6), (1, .int .i64 11), (2, .int .i64 25)] (by rfl) built3_32.2.2.2 W) (by assumption) ?_
        simp only [Act.put, List.getElem_toArray, List.getElem_cons_succ, List.getElem_cons_zero, List.setIfInBounds_toArray, List.set_cons_zero, List.set_cons_succ]
        refine held_take 14 (o := _) rfl (by kernel_rfl) (by kernel_rfl) (by kernel_rfl) rfl (.agg kind32) (fun _ _ _ h => h) (fun W hW => run_build_ps (parts := [(0, .const (.int .i64 32)), (1, .tmp 71), (2, .tmp 72), (3, .tmp 73), (4, .tmp 74)]) (by rfl) [(0, .int .i64 32), (1, .agg (three 7 18 3)), (2, .agg (three 17 19 10)), (3, .agg (three 2 13 22)), (4, .agg (three 6 11 25))] (by simp [Act.eval]) builtKind32 W) (by assumption) ?_
        simp only [Act.put, List.getElem_toArray, List.getElem_cons_succ, List.getElem_cons_zero, List.setIfInBounds_toArray, List.set_cons_zero, List.set_cons_succ]
        refine held_callG 8 (by kernel_rfl) (o := _) rfl (by simp [Region.wanted, yielded]) 66 _ _ rfl #[.slice A' 64 c', .int .i64 4, .int .i64 64] (by simp [Act.eval]) (enter_words32 _) ?_
        refine (words32_any A' c' x wr.drew (by rw [← Hx.out]; exact hSd.rd.take (by omega)) (by omega)).mono ?_
        rintro e w5 ⟨v5, rfl, own5, hB5⟩
        have hS5 := hSd.next hB5
        refine ⟨_, rfl, ⟨st, Hstl.out, hS5⟩, ?_⟩
        intro _
        simp only [Act.put, List.getElem_toArray, List.getElem_cons_succ, List.getElem_cons_zero, List.setIfInBounds_toArray, List.set_cons_zero, List.set_cons_succ]
        refine held_callG 15 (by kernel_rfl) (o := _) rfl (by simp [Region.wanted, yielded]) 65 _ _ rfl #[.pointer (some ⟨g, 1, none⟩), v5, .slice (some ⟨0, 0, none⟩) 64 64, .agg kind32] (by simp [Act.eval]) (enter_blocked32 _) ?_
        have hgw : g < wr.drew.heap.size := hSd.dg.lt
        refine (blocked32_any g 0 #[.int .i64 1] (arr64 z0 ++ #[.slice A' r' c', .int .u64 ((n64 N2 : Nat) : Int)]) st rfl Hstl.out wr.drew.heap.size v5 (Sha32.words x) w5 (by rw [← dig_32]; exact hS5.dg) hS5.tb hgw hSd.tb.lt hB5.size own5 (Sha32.wordsTo_len _ 16)).mono ?_
        rintro e w6 ⟨rfl, hdg6, hK6⟩
        rw [← dig_32] at hdg6
        have hK7 : Kept wr.drew.heap.size g wr.drew w6 := (below_kept hB5 (Nat.le_refl _)).trans hK6
        have hS6 : WrS32 w g (dig 1 (Sha32.block st (Sha32.words x)) z0 (.slice A' r' c') N2) A' r' ((l ++ t).drop (64 * j)) w6 := by
          have hh := reads_kept32 hSd.rd hK7 (fun ad e => (hne' (by omega) ad e).1)
          exact ⟨hdg6, ⟨hh.len, hh.is.more hK7.size⟩, hSd.tb.kept hK7 hSd.tb.lt hgk, hSd.kept.trans (hK7.mono hSd.kept.size)⟩
        refine ⟨_, rfl, ⟨_, by rw [Sha32.block_len, Hstl.out], hS6⟩, ?_⟩
        intro _
        simp only [Act.put, List.getElem_toArray, List.getElem_cons_succ, List.getElem_cons_zero, List.setIfInBounds_toArray, List.set_cons_zero, List.set_cons_succ]
        refine wpAnyH_done (by kernel_rfl) ?_ _
        clear hSd hS5 hB5 own5 hdg6 hK6 hK7
        rw [← Hnx.out] at hS6
        have Hbl := hd (show (Sha32.block st (Sha32.words x)).length = 8 by rw [Sha32.block_len, Hstl.out])
        have Hfl := hd (show (Sha32.feed (j + 1) (l ++ t) s).length = 8 by rw [Sha32.feed_len, Hs.out])
        have c17 : w6.cell? ⟨g, 17, none⟩ = some (.slice A' r' c') := (hS6.dg.cell 17).trans (dig_rest Hfl.out Hz.out)
        have f17 := hS6.dg.frozen 17
        have v3 : (64 : Int) ≤ (c' : Int) := by omega
        by_cases hcm : c' = 64
        · obtain ⟨hS7, hnone, hne7⟩ := wrNext32 Hfl.out Hz.out hS6 hge hrc' (hne' (by omega)) hgk A' (by rw [if_pos hcm])
          have Hm7 := hd (lenAt_is ((hS7.dg.cell 17).trans (dig_rest Hfl.out Hz.out)))
          subst hcm
          obtain rfl : r' = 64 := by omega
          have Hm8 := Hm7.out
          clear Hm7
          simp only [Nat.sub_self] at hS7 Hm8
          have Hm7 := hd Hm8
          clear Hm8
          go_wp2
          go_roundw
          case rel => exact ⟨j + 1, A', 0, 0, by have := Hr.out; omega, by rw [List.drop_drop, show 64 * j + 64 = 64 * (j + 1) by omega] at hS7; exact hS7, by omega, fun _ => rfl, fun _ => hne7, by have := Hr.out; omega⟩
          case measure =>
            rw [Hm7.out, Hm.out]; omega
        · obtain ⟨hS7, hnone, hne7⟩ := wrNext32 Hfl.out Hz.out hS6 hge hrc' (hne' (by omega)) hgk (A'.map (fun x => ⟨x.block, x.off + 64, none⟩)) (by rw [if_neg hcm]; rfl)
          have Hm7 := hd (lenAt_is ((hS7.dg.cell 17).trans (dig_rest Hfl.out Hz.out)))
          go_wp2
          go_roundw
          case rel => exact ⟨j + 1, _, r' - 64, c' - 64, by have := Hr.out; omega, by rw [List.drop_drop, show 64 * j + 64 = 64 * (j + 1) by omega] at hS7; exact hS7, by omega, fun e => by have := hA' (hnone e); omega, fun _ => hne7, by have := Hr.out; omega⟩
          case measure =>
            rw [Hm7.out, Hm.out]; omega
      · have tk : ¬ (64 : Int) ≤ (r' : Int) := by omega
        have ej : j = (r + n) / 64 := by have := Hr.out; omega
        subst ej
        go_wp2
        go_end0
        exact ⟨rfl, hS.kept.grown, A', r', c', by rw [HN2.out, Hst.out]; exact hS.dg, hS.rd, hrc', hA', hne', by have := Hr.out; omega⟩

theorem built3_64 : Tryz.prog.built 90 [(0, .int .i64 1), (1, .int .i64 8), (2, .int .i64 7)] = some (three 1 8 7) ∧ Tryz.prog.built 90 [(0, .int .i64 19), (1, .int .i64 61), (2, .int .i64 6)] = some (three 19 61 6) ∧ Tryz.prog.built 90 [(0, .int .i64 28), (1, .int .i64 34), (2, .int .i64 39)] = some (three 28 34 39) ∧ Tryz.prog.built 90 [(0, .int .i64 14), (1, .int .i64 18), (2, .int .i64 41)] = some (three 14 18 41) := ⟨by kernel_rfl, by kernel_rfl, by kernel_rfl, by kernel_rfl⟩
theorem builtKind64 : Tryz.prog.built 92 [(0, .int .i64 64), (1, .agg (three 1 8 7)), (2, .agg (three 19 61 6)), (3, .agg (three 28 34 39)), (4, .agg (three 14 18 41))] = some kind64 := by kernel_rfl
theorem run_sliceTab64 {w : World} {o : Oper} {ρ : Operand → Value} {x : Operand} (ho : o.op = .slice 97 x none none none) (hx : ρ x = .pointer (some ⟨1, 0, none⟩)) : (execOp ρ o).run Tryz.prog w = .ok (.value (.slice (some ⟨1, 0, none⟩) 80 80)) w := by
  have hs : (Tryz.prog.info? 54).map (·.size) = some 1 := by kernel_rfl
  unfold execOp
  simp only [ho, hx]
  simp [go_sem, Instr.sliceAt, Instr.slice, Instr.sliceBounds, Instr.sliceBound, run_underlying Tryz.underlying97, run_sizeOf hs, asIntOf, Addr.add_zero']
theorem enter_words64 (args : Array Value) (w : World) : (callFunc 68 args).run Tryz.prog w = .ok (.enter 68 args) w := by kernel_rfl
theorem enter_blocked64 (args : Array Value) (w : World) : (callFunc 67 args).run Tryz.prog w = .ok (.enter 67 args) w := by kernel_rfl
/-- What Write's loop keeps: the digest's cells, the bytes at hand, the table. -/
structure WrS64 (w : World) (g : Nat) (cs : Array Value) (A : Option Addr) (r : Nat) (l : List UInt8) (W : World) : Prop where
  dg : Blk W g 70 cs
  rd : ReadsB W W.heap.size A r l
  tb : Blk W 1 97 (arr64 Sha64.K)
  kept : Kept w.heap.size g w W
section
variable {w : World} {g : Nat} {cs : Array Value} {A : Option Addr} {r : Nat} {l : List UInt8} {W w' : World}
theorem WrS64.next (h : WrS64 w g cs A r l W) (hb : Below W.heap.size W w') : WrS64 w g cs A r l w' :=
  ⟨h.dg.below hb h.dg.lt, ⟨h.rd.len, (h.rd.is.below hb).more hb.size⟩, h.tb.below hb h.tb.lt, h.kept.trans (below_kept hb h.kept.size)⟩
end
/-- .. whatever the state is. -/
def WrT64 (hh : Int) (w : World) (g : Nat) (z0 : List UInt32) (rest : Value) (N : UInt64) (A : Option Addr) (r : Nat) (l : List UInt8) (W : World) : Prop := ∃ st : List UInt64, st.length = 8 ∧ WrS64 w g (dig hh z0 (st) rest N) A r l W
theorem reads_kept64 {w w' : World} {B g n : Nat} {A : Option Addr} {l : List UInt8} (h : ReadsB w B A n l) (hk : Kept B g w w') (hne : ∀ ad, A = some ad → ad.block ≠ g) : ReadsB w' B A n l :=
  ⟨h.len, h.is.1, fun hn => by
    obtain ⟨ad, e, hb, hc⟩ := h.is.2 hn
    exact ⟨ad, e, hb, fun j u hu => by rw [← hc j u hu]; exact World.cell?_of_block (hk.block _ (by rw [block_of_add]; exact hb) (by rw [block_of_add]; exact hne ad e))⟩⟩
theorem reads_kept064 {w w' : World} {B g n : Nat} {A : Option Addr} {l : List UInt8} (h : ReadsB w B A n l) (hk : Kept B g w w') (hne : 0 < n → ∀ ad, A = some ad → ad.block ≠ g) : ReadsB w' B A n l := by
  rcases Nat.eq_zero_or_pos n with h0 | h0
  · exact ⟨h.len, h.is.1, fun hn => absurd hn (by omega)⟩
  · exact reads_kept64 h hk (hne h0)
theorem wrNext64 (hh : Int) {w w6 : World} {g : Nat} {Zp : Nat → Prop} {st : List UInt64} {z0 : List UInt32} {N : UInt64} {A' : Option Addr} {r' c' : Nat} {l : List UInt8} (hst : st.length = 8) (hz : z0.length = 8) (hS : WrS64 w g (dig hh z0 (st) (.slice A' r' c') N) A' r' l w6) (hge : 128 ≤ r') (hrc : r' ≤ c') (hne : ∀ ad, A' = some ad → ad.block ≠ g ∧ Zp ad.block) (hgk : 1 ≠ g) (A2 : Option Addr) (hA2 : A2 = if c' = 128 then A' else A'.map (·.add 128)) :
    WrS64 w g (dig hh z0 (st) (.slice A2 (r' - 128) (c' - 128)) N) A2 (r' - 128) (l.drop 128) (w6.setCell ⟨g, 17, none⟩ (.slice A2 (r' - 128) (c' - 128))) ∧ (A2 = none → A' = none) ∧ (∀ ad, A2 = some ad → ad.block ≠ g ∧ Zp ad.block) := by
  have hne2 : ∀ ad, A2 = some ad → ad.block ≠ g ∧ Zp ad.block := fun ad e => by
    rw [hA2] at e
    split at e
    · exact hne ad e
    · cases A' with
      | none => cases e
      | some b =>
        injection e with e
        subst e
        rw [block_of_add]; exact hne b rfl
  have hnone : A2 = none → A' = none := fun e => by
    rw [hA2] at e
    split at e
    · exact e
    · cases A' with
      | none => rfl
      | some b => cases e
  have hK : Kept w6.heap.size g w6 (w6.setCell ⟨g, 17, none⟩ (.slice A2 (r' - 128) (c' - 128))) := grown_kept (grew_setCell (World.grownBy.refl w6 (some g)) 17 _) (fun k hk => .inr (by injection hk with hk; exact hk.symm)) (Nat.le_refl _)
  have hdg := hS.dg.set_ 17 (.slice A2 (r' - 128) (c' - 128))
  rw [dig_set_rest hz hst] at hdg
  have hR := hS.rd.drop (k := 128) hge hrc
  rw [← hA2] at hR
  have hh := reads_kept64 hR hK (fun ad e => (hne2 ad e).1)
  exact ⟨⟨hdg, ⟨hh.len, hh.is.more hK.size⟩, hS.tb.kept hK hS.tb.lt hgk, hS.kept.trans (hK.mono hS.kept.size)⟩, hnone, hne2⟩
set_option maxHeartbeats 8000000 in
set_option maxRecDepth 100000 in
theorem write64_any (hh : Int) (hh2 : hh = 2 ∨ hh = 3) (g : Nat) (Zp : Nat → Prop) (s : List UInt64) (z0 : List UInt32) (hs : s.length = 8) (hz : z0.length = 8) (N : UInt64) (A : Option Addr) (r c : Nat) (l : List UInt8) (D : Option Addr) (n d : Nat) (t : List UInt8) (w : World) (hdg : Blk w g 70 (dig hh z0 s (.slice A r c) N)) (hrd : ReadsB w w.heap.size A r l) (hrc : r ≤ c) (hA : A = none → r = 0) (hneA : 0 < r → ∀ ad, A = some ad → ad.block ≠ g ∧ Zp ad.block) (hZ : ∀ b, w.heap.size ≤ b → Zp b)
    (htb : Blk w 1 97 (arr64 Sha64.K)) (ht : ReadsB w w.heap.size D n t) (hneD : 0 < n → ∀ ad, D = some ad → ad.block ≠ g) (hlen : r + n ≤ 140737488355328) :
    Calls Tryz.prog 50 #[.pointer (some ⟨g, 0, none⟩), .slice D n d] w fun e w' => e = .returned (.tuple #[]) ∧ w.grownBy w' (some g) ∧ ∃ A' r' c', Blk w' g 70 (dig hh z0 (Sha64.feed ((r + n) / 128) (l ++ t) s) (.slice A' r' c') (N + UInt64.ofNat n)) ∧ ReadsB w' w'.heap.size A' r' ((l ++ t).drop (128 * ((r + n) / 128))) ∧ r' ≤ c' ∧ (A' = none → r' = 0) ∧ (0 < r' → ∀ ad, A' = some ad → ad.block ≠ g ∧ Zp ad.block) ∧ r' = (r + n) % 128 := by
  have Hs := hd hs
  have Hz := hd hz
  clear hs hz
  have hh1 : ¬ hh = 1 := by omega
  have hglt := hdg.lt
  have hgk : 1 ≠ g := htb.ne_ hdg (by decide)
  have w1 : IntKind.u64.wrap (n : Int) = ((n64 (UInt64.ofNat n) : Nat) : Int) := by rw [wrap_n64, BitVec.ofInt_natCast]; rfl
  obtain ⟨N2, HN2⟩ : ∃ x, Hd (N + UInt64.ofNat n = x) := ⟨_, ⟨rfl⟩⟩
  have c0 : w.cell? ⟨g, 0, none⟩ = some (.int .i64 hh) := (hdg.cell 0).trans dig_h
  have c18 : w.cell? ⟨g, 18, none⟩ = some (.int .u64 ((n64 N : Nat) : Int)) := (hdg.cell 18).trans (dig_n Hz.out Hs.out)
  have f18 := hdg.frozen 18
  have hdg1 := hdg.set_ 18 (.int .u64 ((n64 (N + UInt64.ofNat n) : Nat) : Int))
  rw [dig_set_n Hz.out Hs.out] at hdg1
  have hK1 : Kept w.heap.size g w (w.setCell ⟨g, 18, none⟩ (.int .u64 ((n64 (N + UInt64.ofNat n) : Nat) : Int))) := grown_kept (grew_setCell (World.grownBy.refl w (some g)) 18 _) (fun k hk => .inr (by injection hk with hk; exact hk.symm)) (Nat.le_refl _)
  have c0' : (w.setCell ⟨g, 18, none⟩ (.int .u64 ((n64 (N + UInt64.ofNat n) : Nat) : Int))).cell? ⟨g, 0, none⟩ = some (.int .i64 hh) := (hdg1.cell 0).trans dig_h
  go_enter Tryz.func50, Tryz.ntmps50
  go_wp2_with (go_at_call 62; refine (blockSize_23 hh hh2 _).mono ?_; rintro e w3 ⟨rfl, rfl⟩)
  refine wp_name (fun wo => Blk wo g 70 (dig hh z0 s (.slice A r c) N2) ∧ Kept w.heap.size g w wo) ⟨by rw [← HN2.out]; exact hdg1, hK1⟩ ?_
  clear c0 c18 f18 hdg1 hK1 c0' w1
  rintro w1 ⟨hdg1, hK1⟩
  have c17 : w1.drew.cell? ⟨g, 17, none⟩ = some (.slice A r c) := (hdg1.drew.cell 17).trans (dig_rest Hz.out Hs.out)
  have v1 : (r : Int) ≤ (c : Int) := by omega
  have f17 := hdg1.drew.frozen 17
  have hr1 : ReadsB w1.drew w.heap.size A r l := (reads_kept064 hrd hK1 (fun h0 ad e => (hneA h0 ad e).1)).drew
  have ht1 : ReadsB w1.drew w.heap.size D n t := (reads_kept064 ht hK1 hneD).drew
  have hBs : w.heap.size ≤ w1.drew.heap.size := hK1.size
  apply region_partF (R := fun (F : Option Addr → Nat → Act) a' w' => ∃ A2 c2 w2, ReadsB w2 w2.heap.size A2 (r + n) (l ++ t) ∧ r + n ≤ c2 ∧ (A2 = none → r + n = 0) ∧ w1.drew.grownBy w2 none ∧ (∀ b, A2 = some b → (A = some b ∧ n = 0) ∨ w1.drew.heap.size ≤ b.block) ∧ a' = F A2 c2 ∧ w' = w2.setCell ⟨g, 17, none⟩ (.slice A2 (r + n) c2))
  · go_region_law (first | (refine step_appendR (by rfl) _ _ (by rfl) (by rfl) (by rfl) hr1 hA ht1 hlen hBs ?_; intro A2 c2 w2 hr2 hc2 hA2 gr2 hn2; have hdg2 := hdg1.drew.grown gr2 (by simp); have f17b := hdg2.frozen 17; have c17b := (hdg2.cell 17).trans (dig_rest Hz.out Hs.out)))
    all_goals exact ⟨A2, c2, w2, hr2, hc2, hA2, gr2, hn2, rfl, rfl⟩
  · rintro a2 w2' ⟨A2, c2, w2, hr2, hc2, hA2, gr2, hn2, rfl, rfl⟩
    have hdg2 := hdg1.drew.grown gr2 (by simp)
    clear c17 f17 hr1 ht1
    have hneA2 : 0 < r + n → ∀ ad, A2 = some ad → ad.block ≠ g ∧ Zp ad.block := fun h0 ad e => by
      rcases hn2 ad e with h | h
      · exact hneA (by omega) ad h.1
      · have hfr : w.heap.size ≤ ad.block := Nat.le_trans hBs h
        exact ⟨by omega, hZ _ hfr⟩
    have hdg3 := hdg2.set_ 17 (.slice A2 (r + n) c2)
    rw [dig_set_rest Hz.out Hs.out] at hdg3
    have hK2 : Kept w2.heap.size g w2 (w2.setCell ⟨g, 17, none⟩ (.slice A2 (r + n) c2)) := grown_kept (grew_setCell (World.grownBy.refl w2 (some g)) 17 _) (fun k hk => .inr (by injection hk with hk; exact hk.symm)) (Nat.le_refl _)
    have hw12 : Kept w.heap.size g w w2 := (hK1.trans (below_kept (Below.refl w.heap.size w1).drew (Nat.le_refl _))).trans (grown_kept gr2 (fun k hk => by cases hk) hBs)
    have hS0 : WrS64 w g (dig hh z0 s (.slice A2 (r + n) c2) N2) A2 (r + n) (l ++ t) (w2.setCell ⟨g, 17, none⟩ (.slice A2 (r + n) c2)) := by
      have hh := reads_kept064 hr2 hK2 (fun h0 ad e => (hneA2 h0 ad e).1)
      have hK3 : Kept w.heap.size g w2 (w2.setCell ⟨g, 17, none⟩ (.slice A2 (r + n) c2)) := ⟨hK2.os, hK2.tape, hK2.output, hK2.size, fun k hk hg => hK2.block k (by have := hw12.size; omega) hg⟩
      have hK4 := hw12.trans hK3
      exact ⟨hdg3, ⟨hh.len, hh.is.more hK2.size⟩, htb.kept hK4 htb.lt hgk, hK4⟩
    clear hK2 hdg2 hdg3 hr2 hw12 gr2 hdg1 hK1 hBs hn2
    have hlen2 := (hS0.rd).len
    go_wp2
    go_loopw [] (fun wr => ∃ (j : Nat) (A' : Option Addr) (r' c' : Nat), 128 * j ≤ r + n ∧ WrS64 w g (dig hh z0 (Sha64.feed j (l ++ t) s) (.slice A' r' c') N2) A' r' ((l ++ t).drop (128 * j)) wr ∧ r' ≤ c' ∧ (A' = none → r' = 0) ∧ (0 < r' → ∀ ad, A' = some ad → ad.block ≠ g ∧ Zp ad.block) ∧ r' = (r + n) - 128 * j) (fun wr => lenAt g wr)
    case atStart => exact ⟨0, A2, r + n, c2, by omega, by rw [Nat.mul_zero, List.drop_zero]; exact hS0, hc2, hA2, hneA2, by omega⟩
    case round =>
      clear hS0
      obtain ⟨j, A', r', c', hj, hS, hrc', hA', hne', hr'⟩ := hrel
      obtain ⟨st, Hst⟩ : ∃ y, Hd (Sha64.feed j (l ++ t) s = y) := ⟨_, ⟨rfl⟩⟩
      rw [Hst.out] at hS
      have Hstl := hd (show st.length = 8 by rw [← Hst.out, Sha64.feed_len, Hs.out])
      have Hr := hd hr'
      clear hr'
      have c17 : wr.cell? ⟨g, 17, none⟩ = some (.slice A' r' c') := (hS.dg.cell 17).trans (dig_rest Hz.out Hstl.out)
      have c0 : wr.cell? ⟨g, 0, none⟩ = some (.int .i64 hh) := (hS.dg.cell 0).trans dig_h
      have Hm := hd (lenAt_is c17)
      by_cases hge : 128 ≤ r'
      · have tk : (128 : Int) ≤ (r' : Int) := by omega
        go_wp2
        obtain ⟨x, Hx⟩ : ∃ y, Hd (((l ++ t).drop (128 * j)).take 128 = y) := ⟨_, ⟨rfl⟩⟩
        have Hnx := hd (show Sha64.feed (j + 1) (l ++ t) s = Sha64.block st (Sha64.words x) by rw [Sha64.feed_snoc, Hst.out, Hx.out])
        have hT0 : WrT64 hh w g z0 (.slice A' r' c') N2 A' r' ((l ++ t).drop (128 * j)) wr := ⟨st, Hstl.out, hS⟩
        have hSd := hS.next (Below.refl wr.heap.size wr).drew
        refine wp_region_held_drew (S := WrT64 hh w g z0 (.slice A' r' c') N2 A' r' ((l ++ t).drop (128 * j))) (by kernel_rfl) ⟨st, Hstl.out, hSd⟩ ?_
        intro hT1
        clear hT0 hS c17 c0
        refine held_take 0 (o := _) rfl (by kernel_rfl) (by kernel_rfl) (by kernel_rfl) rfl (.pointer (some ⟨g, 0, none⟩)) (fun _ _ _ h => h) (fun W hW => run_move (by rfl) (by simp [Act.eval]) W) (by assumption) ?_
        simp only [Act.put, List.getElem_toArray, List.getElem_cons_succ, List.getElem_cons_zero, List.setIfInBounds_toArray, List.set_cons_zero, List.set_cons_succ]
        refine held_take 1 (o := _) rfl (by kernel_rfl) (by kernel_rfl) (by kernel_rfl) rfl (.pointer (some ⟨g, 0, none⟩)) (fun _ _ _ h => h) (fun W hW => run_nilCheck (by rfl) (by simp [Act.eval])) (by assumption) ?_
        simp only [Act.put, List.getElem_toArray, List.getElem_cons_succ, List.getElem_cons_zero, List.setIfInBounds_toArray, List.set_cons_zero, List.set_cons_succ]
        refine held_take 2 (o := _) rfl (by kernel_rfl) (by kernel_rfl) (by kernel_rfl) rfl (.pointer (some ⟨g, 9, none⟩)) (fun _ _ _ h => h) (fun W hW => run_fieldAddr (by rfl) (by simp [Act.eval]) (field_dig g 2 9 (by simp))) (by assumption) ?_
        simp only [Act.put, List.getElem_toArray, List.getElem_cons_succ, List.getElem_cons_zero, List.setIfInBounds_toArray, List.set_cons_zero, List.set_cons_succ]
        refine held_take 3 (o := _) rfl (by kernel_rfl) (by kernel_rfl) (by kernel_rfl) rfl (.pointer (some ⟨g, 0, none⟩)) (fun _ _ _ h => h) (fun W hW => run_move (by rfl) (by simp [Act.eval]) W) (by assumption) ?_
        simp only [Act.put, List.getElem_toArray, List.getElem_cons_succ, List.getElem_cons_zero, List.setIfInBounds_toArray, List.set_cons_zero, List.set_cons_succ]
        refine held_take 4 (o := _) rfl (by kernel_rfl) (by kernel_rfl) (by kernel_rfl) rfl (.pointer (some ⟨g, 0, none⟩)) (fun _ _ _ h => h) (fun W hW => run_nilCheck (by rfl) (by simp [Act.eval])) (by assumption) ?_
        simp only [Act.put, List.getElem_toArray, List.getElem_cons_succ, List.getElem_cons_zero, List.setIfInBounds_toArray, List.set_cons_zero, List.set_cons_succ]
        refine held_take 5 (o := _) rfl (by kernel_rfl) (by kernel_rfl) (by kernel_rfl) rfl (.pointer (some ⟨g, 17, none⟩)) (fun _ _ _ h => h) (fun W hW => run_fieldAddr (by rfl) (by simp [Act.eval]) (field_dig g 3 17 (by simp))) (by assumption) ?_
        simp only [Act.put, List.getElem_toArray, List.getElem_cons_succ, List.getElem_cons_zero, List.setIfInBounds_toArray, List.set_cons_zero, List.set_cons_succ]
        refine held_take 6 (o := _) rfl (by kernel_rfl) (by kernel_rfl) (by kernel_rfl) rfl (.slice A' r' c') (fun _ _ _ h => h) (fun W hW => run_execOp_load (by rfl) (by simp [Act.eval]) (run_load_sl ⟨g, 17, none⟩ _ W (by obtain ⟨st', hl', hW'⟩ := hW; exact (hW'.dg.cell 17).trans (dig_rest Hz.out hl')))) (by assumption) ?_
        simp only [Act.put, List.getElem_toArray, List.getElem_cons_succ, List.getElem_cons_zero, List.setIfInBounds_toArray, List.set_cons_zero, List.set_cons_succ]
        refine held_take 7 (o := _) rfl (by kernel_rfl) (by kernel_rfl) (by kernel_rfl) rfl (.slice A' 128 c') (fun _ _ _ h => h) (fun W hW => run_slice_to (by rfl) Tryz.underlying25 u8_one3 A' r' c' 128 (by simp [Act.eval]) (by simp [Act.eval]) (by omega)) (by assumption) ?_
        simp only [Act.put, List.getElem_toArray, List.getElem_cons_succ, List.getElem_cons_zero, List.setIfInBounds_toArray, List.set_cons_zero, List.set_cons_succ]
        refine held_take 9 (o := _) rfl (by kernel_rfl) (by kernel_rfl) (by kernel_rfl) rfl (.slice (some ⟨1, 0, none⟩) 80 80) (fun _ _ _ h => h) (fun W hW => run_sliceTab64 (by rfl) (by rfl)) (by assumption) ?_
        simp only [Act.put, List.getElem_toArray, List.getElem_cons_succ, List.getElem_cons_zero, List.setIfInBounds_toArray, List.set_cons_zero, List.set_cons_succ]
        refine held_take 10 (o := _) rfl (by kernel_rfl) (by kernel_rfl) (by kernel_rfl) rfl (.agg (three 1 8 7)) (fun _ _ _ h => h) (fun W hW => run_build_ps (parts := [(0, .const (.int .i64 1)), (1, .const (.int .i64 8)), (2, .const (.int .i64 7))]) (by rfl) [(0, .int .i64 1), (1, .int .i64 8), (2, .int .i64 7)] (by rfl) built3_64.1 W) (by assumption) ?_
        simp only [Act.put, List.getElem_toArray, List.getElem_cons_succ, List.getElem_cons_zero, List.setIfInBounds_toArray, List.set_cons_zero, List.set_cons_succ]
        refine held_take 11 (o := _) rfl (by kernel_rfl) (by kernel_rfl) (by kernel_rfl) rfl (.agg (three 19 61 6)) (fun _ _ _ h => h) (fun W hW => run_build_ps (parts := [(0, .const (.int .i64 19)), (1, .const (.int .i64 61)), (2, .const (.int .i64 6))]) (by rfl) [(0, .int .i64 19), (1, .int .i64 61), (2, .int .i64 6)] (by rfl) built3_64.2.1 W) (by assumption) ?_
        simp only [Act.put, List.getElem_toArray, List.getElem_cons_succ, List.getElem_cons_zero, List.setIfInBounds_toArray, List.set_cons_zero, List.set_cons_succ]
        refine held_take 12 (o := _) rfl (by kernel_rfl) (by kernel_rfl) (by kernel_rfl) rfl (.agg (three 28 34 39)) (fun _ _ _ h => h) (fun W hW => run_build_ps (parts := [(0, .const (.int .i64 28)), (1, .const (.int .i64 34)), (2, .const (.int .i64 39))]) (by rfl) [(0, .int .i64 28), (1, .int .i64 34), (2, .int .i64 39)] (by rfl) built3_64.2.2.1 W) (by assumption) ?_
        simp only [Act.put, List.getElem_toArray, List.getElem_cons_succ, List.getElem_cons_zero, List.setIfInBounds_toArray, List.set_cons_zero, List.set_cons_succ]
        refine held_take 13 (o := _) rfl (by kernel_rfl) (by kernel_rfl) (by kernel_rfl) rfl (.agg (three 14 18 41)) (fun _ _ _ h => h) (fun W hW => run_build_ps (parts := [(0, .const (.int .i64 14)), (1, .const (.int .i64 18)), (2, .const (.int .i64 41))]) (by rfl) [(0, .int .i64 14), (1, .int .i64 18), (2, .int .i64 41)] (by rfl) built3_64.2.2.2 W) (by assumption) ?_
        simp only [Act.put, List.getElem_toArray, List.getElem_cons_succ, List.getElem_cons_zero, List.setIfInBounds_toArray, List.set_cons_zero, List.set_cons_succ]
        refine held_take 14 (o := _) rfl (by kernel_rfl) (by kernel_rfl) (by kernel_rfl) rfl (.agg kind64) (fun _ _ _ h => h) (fun W hW => run_build_ps (parts := [(0, .const (.int .i64 64)), (1, .tmp 87), (2, .tmp 88), (3, .tmp 89), (4, .tmp 90)]) (by rfl) [(0, .int .i64 64), (1, .agg (three 1 8 7)), (2, .agg (three 19 61 6)), (3, .agg (three 28 34 39)), (4, .agg (three 14 18 41))] (by simp [Act.eval]) builtKind64 W) (by assumption) ?_
        simp only [Act.put, List.getElem_toArray, List.getElem_cons_succ, List.getElem_cons_zero, List.setIfInBounds_toArray, List.set_cons_zero, List.set_cons_succ]
        refine held_callG 8 (by kernel_rfl) (o := _) rfl (by simp [Region.wanted, yielded]) 68 _ _ rfl #[.slice A' 128 c', .int .i64 8, .int .i64 80] (by simp [Act.eval]) (enter_words64 _) ?_
        refine (words64_any A' c' x wr.drew (by rw [← Hx.out]; exact hSd.rd.take (by omega)) (by omega)).mono ?_
        rintro e w5 ⟨v5, rfl, own5, hB5⟩
        have hS5 := hSd.next hB5
        refine ⟨_, rfl, ⟨st, Hstl.out, hS5⟩, ?_⟩
        intro _
        simp only [Act.put, List.getElem_toArray, List.getElem_cons_succ, List.getElem_cons_zero, List.setIfInBounds_toArray, List.set_cons_zero, List.set_cons_succ]
        refine held_callG 15 (by kernel_rfl) (o := _) rfl (by simp [Region.wanted, yielded]) 67 _ _ rfl #[.pointer (some ⟨g, 9, none⟩), v5, .slice (some ⟨1, 0, none⟩) 80 80, .agg kind64] (by simp [Act.eval]) (enter_blocked64 _) ?_
        have hgw : g < wr.drew.heap.size := hSd.dg.lt
        refine (blocked64_any g 1 (#[.int .i64 hh] ++ arr32 z0) #[.slice A' r' c', .int .u64 ((n64 N2 : Nat) : Int)] st (by rw [Array.size_append, arr32_size, Hz.out]; rfl) Hstl.out wr.drew.heap.size v5 (Sha64.words x) w5 hS5.dg hS5.tb hgw hSd.tb.lt hB5.size own5 (Sha64.wordsTo_len _ 16)).mono ?_
        rintro e w6 ⟨rfl, hdg6, hK6⟩
        have hdg6 : Blk w6 g 70 (dig hh z0 (Sha64.block st (Sha64.words x)) (.slice A' r' c') N2) := hdg6
        have hK7 : Kept wr.drew.heap.size g wr.drew w6 := (below_kept hB5 (Nat.le_refl _)).trans hK6
        have hS6 : WrS64 w g (dig hh z0 (Sha64.block st (Sha64.words x)) (.slice A' r' c') N2) A' r' ((l ++ t).drop (128 * j)) w6 := by
          have hh := reads_kept64 hSd.rd hK7 (fun ad e => (hne' (by omega) ad e).1)
          exact ⟨hdg6, ⟨hh.len, hh.is.more hK7.size⟩, hSd.tb.kept hK7 hSd.tb.lt hgk, hSd.kept.trans (hK7.mono hSd.kept.size)⟩
        refine ⟨_, rfl, ⟨_, by rw [Sha64.block_len, Hstl.out], hS6⟩, ?_⟩
        intro _
        simp only [Act.put, List.getElem_toArray, List.getElem_cons_succ, List.getElem_cons_zero, List.setIfInBounds_toArray, List.set_cons_zero, List.set_cons_succ]
        refine wpAnyH_done (by kernel_rfl) ?_ _
        clear hSd hS5 hB5 own5 hdg6 hK6 hK7
        rw [← Hnx.out] at hS6
        have Hbl := hd (show (Sha64.block st (Sha64.words x)).length = 8 by rw [Sha64.block_len, Hstl.out])
        have Hfl := hd (show (Sha64.feed (j + 1) (l ++ t) s).length = 8 by rw [Sha64.feed_len, Hs.out])
        have c17 : w6.cell? ⟨g, 17, none⟩ = some (.slice A' r' c') := (hS6.dg.cell 17).trans (dig_rest Hz.out Hfl.out)
        have f17 := hS6.dg.frozen 17
        have v3 : (128 : Int) ≤ (c' : Int) := by omega
        by_cases hcm : c' = 128
        · obtain ⟨hS7, hnone, hne7⟩ := wrNext64 hh Hfl.out Hz.out hS6 hge hrc' (hne' (by omega)) hgk A' (by rw [if_pos hcm])
          have Hm7 := hd (lenAt_is ((hS7.dg.cell 17).trans (dig_rest Hz.out Hfl.out)))
          subst hcm
          obtain rfl : r' = 128 := by omega
          have Hm8 := Hm7.out
          clear Hm7
          simp only [Nat.sub_self] at hS7 Hm8
          have Hm7 := hd Hm8
          clear Hm8
          go_wp2
          go_roundw
          case rel => exact ⟨j + 1, A', 0, 0, by have := Hr.out; omega, by rw [List.drop_drop, show 128 * j + 128 = 128 * (j + 1) by omega] at hS7; exact hS7, by omega, fun _ => rfl, fun _ => hne7, by have := Hr.out; omega⟩
          case measure =>
            rw [Hm7.out, Hm.out]; omega
        · obtain ⟨hS7, hnone, hne7⟩ := wrNext64 hh Hfl.out Hz.out hS6 hge hrc' (hne' (by omega)) hgk (A'.map (fun x => ⟨x.block, x.off + 128, none⟩)) (by rw [if_neg hcm]; rfl)
          have Hm7 := hd (lenAt_is ((hS7.dg.cell 17).trans (dig_rest Hz.out Hfl.out)))
          go_wp2
          go_roundw
          case rel => exact ⟨j + 1, _, r' - 128, c' - 128, by have := Hr.out; omega, by rw [List.drop_drop, show 128 * j + 128 = 128 * (j + 1) by omega] at hS7; exact hS7, by omega, fun e => by have := hA' (hnone e); omega, fun _ => hne7, by have := Hr.out; omega⟩
          case measure =>
            rw [Hm7.out, Hm.out]; omega
      · have tk : ¬ (128 : Int) ≤ (r' : Int) := by omega
        have ej : j = (r + n) / 128 := by have := Hr.out; omega
        subst ej
        go_wp2
        go_end0
        exact ⟨rfl, hS.kept.grown, A', r', c', by rw [HN2.out, Hst.out]; exact hS.dg, hS.rd, hrc', hA', hne', by have := Hr.out; omega⟩

end Go.Proofs.YtbcboldepghgpaaGreatDoor
