/-
  The reference's New at any key; the walk of the statement AesStreams.
-/
import Derived.Test.YtbbfckdcfbacpaaRefC
import Derived.Test.YtbbfckdcfbacpaaRefD
import Derived.Test.YtbbfckdcfbacpaaHeldB
set_option linter.unusedVariables false
set_option linter.unusedSimpArgs false
namespace Go.Proofs.Ytbbfckdcfbacpaa
open Go.RowKit
set_option maxHeartbeats 400000 in
set_option maxRecDepth 100000 in
theorem ref_new_refused (A : Option Addr) (n c : Nat) (w : World) (h16 : n ≠ 16) (h32 : n ≠ 32) :
    Calls Try.prog 14 #[.slice A n c] w fun e w' => e = .returned (.tuple #[.pointer none, .int .i64 1]) ∧ w = w' := by
  have t1 : ((n : Int) == 16) = false := by rw [beq_eq_false_iff_ne]; omega
  have t2 : ((n : Int) == 32) = false := by rw [beq_eq_false_iff_ne]; omega
  have t3 : ((n : Int) != 16) = true := by rw [bne, t1]; rfl
  have t4 : ((n : Int) != 32) = true := by rw [bne, t2]; rfl
  go_enter Try.func14, Try.ntmps14
  go_wp2
  go_ret2
  exact ⟨rfl, rfl⟩
theorem ref_new_made (A : Option Addr) (c : Nat) (key : List UInt8) (n : Nat) (w : World) (hr : ReadsB w w.heap.size A n key) (hn : n = 16 ∨ n = 32) :
    Calls Try.prog 14 #[.slice A n c] w fun e w' => ∃ g, e = .returned (.tuple #[.pointer (some ⟨g, 0, none⟩), .int .i64 0]) ∧ RefAt w' g (Aes.keys key) ∧ Below w.heap.size w w' := by
  rcases hn with rfl | rfl
  · exact ref_new_made16 A c key w hr
  · exact ref_new_made32 A c key w hr
theorem keys_most (key : List UInt8) (h : key.length = 16 ∨ key.length = 32) : (Aes.keys key).length ≤ 15 := by
  rw [Aes.keys_len key h]
  split <;> omega
theorem enter_stream (args : Array Value) (w : World) : (callFunc 17 args).run Try.prog w = .ok (.enter 17 args) w := by kernel_rfl
theorem enter_rstream (args : Array Value) (w : World) : (callFunc 18 args).run Try.prog w = .ok (.enter 18 args) w := by kernel_rfl
theorem ReadsB.next {w w' : World} {A : Option Addr} {n : Nat} {l : List UInt8} (h : ReadsB w w.heap.size A n l) (hb : Below w.heap.size w w') : ReadsB w' w'.heap.size A n l := ⟨h.len, (h.is.below hb).more hb.size⟩
/-- What stays while both streams run. -/
structure StS (w : World) (ctr b S : List UInt8) (g g2 : Nat) (rs : List (List UInt8)) (D A4 A5 : Option Addr) (m : Nat) (w' : World) : Prop where
  out : ReadsB w' w'.heap.size A5 m S
  own : ReadsB w' w'.heap.size A4 m b
  inb : ReadsB w' w'.heap.size D m b
  ctr : Blk w' w.heap.size 32 (arr ctr)
  key : KeyAt w' g rs
  ref : RefAt w' g2 rs
  old : Below w.heap.size w w'
theorem StS.next {w : World} {ctr b S : List UInt8} {g g2 : Nat} {rs : List (List UInt8)} {D A4 A5 : Option Addr} {m : Nat} {W w' : World} (h : StS w ctr b S g g2 rs D A4 A5 m W) (hb : Below W.heap.size W w') : StS w ctr b S g g2 rs D A4 A5 m w' :=
  ⟨h.out.next hb, h.own.next hb, h.inb.next hb, h.ctr.below hb h.ctr.lt, h.key.below hb, h.ref.below hb, h.old.trans (hb.mono h.old.size)⟩
theorem StS.drew {w : World} {ctr b S : List UInt8} {g g2 : Nat} {rs : List (List UInt8)} {D A4 A5 : Option Addr} {m : Nat} {W : World} (h : StS w ctr b S g g2 rs D A4 A5 m W) : StS w ctr b S g g2 rs D A4 A5 m W.drew := h.next (Below.refl _ _).drew
theorem run_eqStr_true {P : Program} {o : Oper} {ρ : Operand → Value} {x y : Operand} {t rt : TypeId} (ho : o.op = .binOp .eql t x y rt) (l m : List UInt8) (h : l = m) (hx : ρ x = .string (str l)) (hy : ρ y = .string (str m)) (w : World) :
    (execOp ρ o).run P w = .ok (.value (.bool true)) w := by
  rw [run_eqStr ho l m hx hy w, decide_eq_true h]
set_option maxHeartbeats 2000000 in
set_option maxRecDepth 100000 in
theorem streams_refused (A : Option Addr) (n c : Nat) (ctr : List UInt8) (D : Option Addr) (m d : Nat) (w : World) (h16 : n ≠ 16) (h32 : n ≠ 32) :
    Calls Try.prog 5 #[.slice A n c, .agg (arr ctr), .slice D m d] w fun e w' => e = .returned (.bool true) ∧ Below w.heap.size w w' := by
  have hnil : ∀ W, (binOp .eql 25 (.pointer none) (.pointer none)).run Try.prog W = .ok (.bool true) W := fun W => by kernel_rfl
  have hnil2 : ∀ W, (binOp .eql 29 (.pointer none) (.pointer none)).run Try.prog W = .ok (.bool true) W := fun W => by kernel_rfl
  have hB0 := (Below.refl w.heap.size w).alloc (Nat.le_refl _) (.cells (arr ctr) 32)
  go_enter Try.func5, Try.ntmps5
  go_wp2_with (first | (go_at_call 12; refine (head_any _).mono ?_; rintro e w1 ⟨rfl, hB1⟩) | (go_at_call 13; refine (new_refused _ _ _ _ h16 h32).mono ?_; rintro e w2 ⟨rfl, rfl⟩) | (go_at_call 14; refine (ref_new_refused _ _ _ _ h16 h32).mono ?_; rintro e w2 ⟨rfl, rfl⟩))
  go_ret
  exact ⟨rfl, hB0.trans (hB1.mono hB0.size)⟩
set_option maxHeartbeats 8000000 in
set_option maxRecDepth 100000 in
theorem streams_made (A : Option Addr) (n c : Nat) (key ctr : List UInt8) (hc : ctr.length = 16) (D : Option Addr) (m d : Nat) (b : List UInt8) (w : World) (hr : ReadsB w w.heap.size A n key) (hn : n = 16 ∨ n = 32) (hb : ReadsB w w.heap.size D m b) (hm : m ≤ 140737488351232) :
    Calls Try.prog 5 #[.slice A n c, .agg (arr ctr), .slice D m d] w fun e w' => e = .returned (.bool true) ∧ Below w.heap.size w w' := by
  have Hn := hd hn
  have Hc := hd hc
  have Hk := hd (show key.length = 16 ∨ key.length = 32 by rw [hr.len]; exact hn)
  have Hbl := hd hb.len
  clear hn hc
  have hB0 := (Below.refl w.heap.size w).alloc (Nat.le_refl _) (.cells (arr ctr) 32)
  go_enter Try.func5, Try.ntmps5
  go_wp2_with fail
  refine (head_any _).mono ?_
  rintro e w1 ⟨rfl, hB1⟩
  have a1 : Blk w1 w.heap.size 32 (arr ctr) := (Blk.nu rfl).below hB1 (by simp)
  have hB1' := hB0.trans (hB1.mono hB0.size)
  have hr1 : ReadsB w1 w1.heap.size A n key := ⟨hr.len, (hr.is.below hB1').more hB1'.size⟩
  clear hB1 hB0 hr
  go_wp2_with fail
  refine (new_made _ _ _ _ _ hr1 Hn.out).mono ?_
  rintro e w2 ⟨g, rfl, hkey, hB2⟩
  have a2 := a1.below hB2 a1.lt
  have hB2' := hB1'.trans (hB2.mono hB1'.size)
  have hr2 := hr1.next hB2
  clear a1 hB1' hB2 hr1
  go_wp2_with fail
  refine (ref_new_made _ _ _ _ _ hr2 Hn.out).mono ?_
  rintro e w3 ⟨g2, rfl, href, hB3⟩
  have a3 := a2.below hB3 a2.lt
  have hB3' := hB2'.trans (hB3.mono hB2'.size)
  have hkey3 := hkey.below hB3
  obtain ⟨rs, Hrk⟩ : ∃ rs, Hd (Aes.keys key = rs) := ⟨_, ⟨rfl⟩⟩
  have Hrs := hd (keys_some key Hk.out)
  have Hrm := hd (keys_most key Hk.out)
  rw [Hrk.out] at hkey3 href Hrs Hrm
  have hnil : ∀ W, (binOp .eql 25 (.pointer (some ⟨g, 0, none⟩)) (.pointer none)).run Try.prog W = .ok (.bool false) W := fun W => by kernel_rfl
  have hnil2 : ∀ W, (binOp .eql 29 (.pointer (some ⟨g2, 0, none⟩)) (.pointer none)).run Try.prog W = .ok (.bool false) W := fun W => by kernel_rfl
  have hb3 : ReadsB w3 w3.heap.size D m b := ⟨hb.len, (hb.is.below hB3').more hB3'.size⟩
  clear a2 hB2' hB3 hr2 hb hkey
  have own0 := OwnB.empty (w := w3) (Nat.le_refl w3.heap.size)
  have hb3' : ReadsB (w3.alloc (.cells #[] 5)) w3.heap.size D m b := ⟨hb3.len, hb3.is.alloc (Nat.le_refl _) _⟩
  have hcl : ([] : List UInt8).length + b.length ≤ 140737488355328 := by rw [Hbl.out]; simp; omega
  have hBs : w3.heap.size ≤ (w3.alloc (.cells #[] 5)).heap.size := by simp
  go_wp2_with (first | (at_builtin; refine wpl_appendB rfl _ _ rfl w3.heap.size (.slice (some ⟨w3.heap.size, 0, none⟩) 0 0) [] rfl own0 w3.heap.size D m d b rfl hb3' hcl hBs ?_; intro v4 w4 own4 gr4 at4; have a4 := (a3.alloc (.cells #[] 5)).appended own0 gr4 (by decide)) | (refine wpl_load_arr rfl 32 _ rfl _ rfl 16 ty16 ctr Hc.out a4.cells_arr ?_))
  have hB34 : Below w3.heap.size w3 w4 := below_appended ((Below.refl w3.heap.size w3).alloc (Nat.le_refl _) (.cells #[] 5)) own0 gr4 (Nat.le_refl _) hBs
  rw [List.nil_append] at own4
  obtain ⟨A4, cp4, e4⟩ := own4.slice
  rw [Hbl.out] at e4
  subst e4
  have r4 := own4.reads_any.2
  have hkey4 := hkey3.below hB34
  have href4 := href.below hB34
  have hb4 := hb3.next hB34
  have hB4' := hB3'.trans (hB34.mono hB3'.size)
  clear own0 hb3' hcl hBs gr4 at4 a3 hB3' hkey3 href hb3 own4 hB34
  obtain ⟨S, HS⟩ : ∃ s, Hd (Aes.stream rs ctr b = s) := ⟨_, ⟨rfl⟩⟩
  have HSl := hd (show S.length = m by rw [← HS.out, Aes.stream_len, Hbl.out])
  have HSS := hd (show Aes.stream rs ctr S = b by rw [← HS.out]; exact Aes.stream_twice rs ctr b)
  refine (stream_any g rs Hrs.out.1 Hrs.out.2 ctr Hc.out A4 m cp4 b _ hkey4 r4 (by omega)).mono ?_
  rintro e w5 ⟨v5, rfl, own5, hB5⟩
  rw [HS.out] at own5
  obtain ⟨A5, cp5, e5⟩ := own5.slice
  rw [HSl.out] at e5
  subst e5
  have r5 := own5.reads_any.2
  have hS5 : StS w ctr b S g g2 rs D A4 A5 m w5 := ⟨r5, r4.next hB5, hb4.next hB5, a4.below hB5 a4.lt, hkey4.below hB5, href4.below hB5, hB4'.trans (hB5.mono hB4'.size)⟩
  clear r5 r4 hb4 a4 hkey4 href4 hB4' hB5 own5
  go_wp2_with fail
  refine wp_region_held_drew (S := StS w ctr b S g g2 rs D A4 A5 m) (by kernel_rfl) hS5.drew ?_
  intro hS1
  refine held_take 0 (o := _) rfl (by kernel_rfl) (by kernel_rfl) (by kernel_rfl) rfl (.slice A5 m cp5) (fun _ _ _ h => h) (fun W hW => run_move (by rfl) (by simp [Act.eval]) W) (by assumption) ?_
  simp only [Act.put, List.getElem_toArray, List.getElem_cons_succ, List.getElem_cons_zero, List.setIfInBounds_toArray, List.set_cons_zero, List.set_cons_succ]
  refine held_take 1 (o := _) rfl (by kernel_rfl) (by kernel_rfl) (by kernel_rfl) rfl (.string (str S)) (fun _ _ _ h => h) (fun W hW => run_toStr (by rfl) Try.underlying22 Try.underlying5 Try.underlying9 _ A5 m cp5 S (by simp [Act.eval]) (StS.out hW)) (by assumption) ?_
  simp only [Act.put, List.getElem_toArray, List.getElem_cons_succ, List.getElem_cons_zero, List.setIfInBounds_toArray, List.set_cons_zero, List.set_cons_succ]
  refine held_take 2 (o := _) rfl (by kernel_rfl) (by kernel_rfl) (by kernel_rfl) rfl (.pointer (some ⟨g2, 0, none⟩)) (fun _ _ _ h => h) (fun W hW => run_move (by rfl) (by simp [Act.eval]) W) (by assumption) ?_
  simp only [Act.put, List.getElem_toArray, List.getElem_cons_succ, List.getElem_cons_zero, List.setIfInBounds_toArray, List.set_cons_zero, List.set_cons_succ]
  refine held_take 3 (o := _) rfl (by kernel_rfl) (by kernel_rfl) (by kernel_rfl) rfl (.agg (arr ctr)) (fun _ _ _ h => h) (fun W hW => run_load_arr (by rfl) (by simp [Act.eval]) ty16 ctr Hc.out ((StS.ctr hW).cells_arr)) (by assumption) ?_
  simp only [Act.put, List.getElem_toArray, List.getElem_cons_succ, List.getElem_cons_zero, List.setIfInBounds_toArray, List.set_cons_zero, List.set_cons_succ]
  refine held_take 4 (o := _) rfl (by kernel_rfl) (by kernel_rfl) (by kernel_rfl) rfl (.slice D m d) (fun _ _ _ h => h) (fun W hW => run_move (by rfl) (by simp [Act.eval]) W) (by assumption) ?_
  simp only [Act.put, List.getElem_toArray, List.getElem_cons_succ, List.getElem_cons_zero, List.setIfInBounds_toArray, List.set_cons_zero, List.set_cons_succ]
  refine held_callG 5 (by kernel_rfl) (o := _) rfl (by simp [Region.wanted, yielded]) 18 _ _ rfl #[.pointer (some ⟨g2, 0, none⟩), .agg (arr ctr), .slice D m d] (by simp [Act.eval]) (enter_rstream _) ?_
  refine (ref_stream_any g2 rs Hrs.out.1 Hrm.out ctr Hc.out D m d b _ (StS.ref (w := w) (ctr := ctr) (b := b) (S := S) (g := g) (D := D) (A4 := A4) (A5 := A5) (m := m) (by assumption)) (StS.inb (w := w) (ctr := ctr) (S := S) (g := g) (g2 := g2) (rs := rs) (A4 := A4) (A5 := A5) (by assumption)) (by omega)).mono ?_
  rintro e w6 ⟨v6, rfl, own6, hB6⟩
  rw [HS.out] at own6
  obtain ⟨A6, cp6, e6⟩ := own6.slice
  rw [HSl.out] at e6
  subst e6
  have r6 := own6.reads_any.2
  refine ⟨_, rfl, StS.next (w := w) (ctr := ctr) (b := b) (S := S) (g := g) (g2 := g2) (rs := rs) (D := D) (A4 := A4) (A5 := A5) (m := m) (by assumption) hB6, ?_⟩
  intro hS6
  simp only [Act.put, List.getElem_toArray, List.getElem_cons_succ, List.getElem_cons_zero, List.setIfInBounds_toArray, List.set_cons_zero, List.set_cons_succ]
  refine held_do 6 (by kernel_rfl) (o := _) rfl (by simp [Region.wanted, yielded]) (.string (str S)) w6 (run_toStr (by rfl) Try.underlying22 Try.underlying5 Try.underlying9 _ A6 m cp6 S (by simp [Act.eval]) r6) hS6 ?_
  intro _
  simp only [Act.put, List.getElem_toArray, List.getElem_cons_succ, List.getElem_cons_zero, List.setIfInBounds_toArray, List.set_cons_zero, List.set_cons_succ]
  refine held_take 7 (o := _) rfl (by kernel_rfl) (by kernel_rfl) (by kernel_rfl) rfl (.bool true) (fun _ _ _ h => h) (fun W hW => run_eqStr_true (by rfl) S S (rfl) (by simp [Act.eval]) (by simp [Act.eval]) W) (by assumption) ?_
  simp only [Act.put, List.getElem_toArray, List.getElem_cons_succ, List.getElem_cons_zero, List.setIfInBounds_toArray, List.set_cons_zero, List.set_cons_succ]
  refine held_take 8 (o := _) rfl (by kernel_rfl) (by kernel_rfl) (by kernel_rfl) rfl (.bool true) (fun _ _ _ h => h) (fun W hW => run_assign (by rfl) (by simp [Act.eval]) W) (by assumption) ?_
  simp only [Act.put, List.getElem_toArray, List.getElem_cons_succ, List.getElem_cons_zero, List.setIfInBounds_toArray, List.set_cons_zero, List.set_cons_succ]
  refine wpAnyH_done (by kernel_rfl) ?_ _
  clear r6 hS1
  go_wp2_with fail
  refine wp_region_held_drew (S := StS w ctr b S g g2 rs D A4 A5 m) (by kernel_rfl) (StS.drew (w := w) (by assumption)) ?_
  intro hS7
  refine held_take 0 (o := _) rfl (by kernel_rfl) (by kernel_rfl) (by kernel_rfl) rfl (.bool true) (fun _ _ _ h => h) (fun W hW => run_move (by rfl) (by simp [Act.eval]) W) (by assumption) ?_
  simp only [Act.put, List.getElem_toArray, List.getElem_cons_succ, List.getElem_cons_zero, List.setIfInBounds_toArray, List.set_cons_zero, List.set_cons_succ]
  refine held_take 1 (o := _) rfl (by kernel_rfl) (by kernel_rfl) (by kernel_rfl) rfl (.bool true) (fun _ _ _ h => h) (fun W hW => run_move (by rfl) (by simp [Act.eval]) W) (by assumption) ?_
  simp only [Act.put, List.getElem_toArray, List.getElem_cons_succ, List.getElem_cons_zero, List.setIfInBounds_toArray, List.set_cons_zero, List.set_cons_succ]
  refine held_takeG 2 (o := _) rfl (by kernel_rfl) (by kernel_rfl) (by kernel_rfl) (by simp [Region.wanted, yielded]) (.slice A4 m cp4) (fun _ _ _ h => h) (fun W hW => run_move (by rfl) (by simp [Act.eval]) W) (by assumption) ?_
  simp only [Act.put, List.getElem_toArray, List.getElem_cons_succ, List.getElem_cons_zero, List.setIfInBounds_toArray, List.set_cons_zero, List.set_cons_succ]
  refine held_takeG 3 (o := _) rfl (by kernel_rfl) (by kernel_rfl) (by kernel_rfl) (by simp [Region.wanted, yielded]) (.string (str b)) (fun _ _ _ h => h) (fun W hW => run_toStr (by rfl) Try.underlying22 Try.underlying5 Try.underlying9 _ A4 m cp4 b (by simp [Act.eval]) (StS.own hW)) (by assumption) ?_
  simp only [Act.put, List.getElem_toArray, List.getElem_cons_succ, List.getElem_cons_zero, List.setIfInBounds_toArray, List.set_cons_zero, List.set_cons_succ]
  refine held_takeG 4 (o := _) rfl (by kernel_rfl) (by kernel_rfl) (by kernel_rfl) (by simp [Region.wanted, yielded]) (.slice D m d) (fun _ _ _ h => h) (fun W hW => run_move (by rfl) (by simp [Act.eval]) W) (by assumption) ?_
  simp only [Act.put, List.getElem_toArray, List.getElem_cons_succ, List.getElem_cons_zero, List.setIfInBounds_toArray, List.set_cons_zero, List.set_cons_succ]
  refine held_takeG 5 (o := _) rfl (by kernel_rfl) (by kernel_rfl) (by kernel_rfl) (by simp [Region.wanted, yielded]) (.string (str b)) (fun _ _ _ h => h) (fun W hW => run_toStr (by rfl) Try.underlying22 Try.underlying5 Try.underlying9 _ D m d b (by simp [Act.eval]) (StS.inb hW)) (by assumption) ?_
  simp only [Act.put, List.getElem_toArray, List.getElem_cons_succ, List.getElem_cons_zero, List.setIfInBounds_toArray, List.set_cons_zero, List.set_cons_succ]
  refine held_takeG 6 (o := _) rfl (by kernel_rfl) (by kernel_rfl) (by kernel_rfl) (by simp [Region.wanted, yielded]) (.bool true) (fun _ _ _ h => h) (fun W hW => run_eqStr_true (by rfl) b b (rfl) (by simp [Act.eval]) (by simp [Act.eval]) W) (by assumption) ?_
  simp only [Act.put, List.getElem_toArray, List.getElem_cons_succ, List.getElem_cons_zero, List.setIfInBounds_toArray, List.set_cons_zero, List.set_cons_succ]
  refine held_take 7 (o := _) rfl (by kernel_rfl) (by kernel_rfl) (by kernel_rfl) rfl (.bool true) (fun _ _ _ h => h) (fun W hW => run_pick (b := true) (by rfl) (by simp [Act.eval]) (by simp [Act.eval]) W) (by assumption) ?_
  simp only [Act.put, List.getElem_toArray, List.getElem_cons_succ, List.getElem_cons_zero, List.setIfInBounds_toArray, List.set_cons_zero, List.set_cons_succ]
  refine held_take 8 (o := _) rfl (by kernel_rfl) (by kernel_rfl) (by kernel_rfl) rfl (.bool true) (fun _ _ _ h => h) (fun W hW => run_move (by rfl) (by simp [Act.eval]) W) (by assumption) ?_
  simp only [Act.put, List.getElem_toArray, List.getElem_cons_succ, List.getElem_cons_zero, List.setIfInBounds_toArray, List.set_cons_zero, List.set_cons_succ]
  refine held_takeG 9 (o := _) rfl (by kernel_rfl) (by kernel_rfl) (by kernel_rfl) (by simp [Region.wanted, yielded]) (.pointer (some ⟨g, 0, none⟩)) (fun _ _ _ h => h) (fun W hW => run_move (by rfl) (by simp [Act.eval]) W) (by assumption) ?_
  simp only [Act.put, List.getElem_toArray, List.getElem_cons_succ, List.getElem_cons_zero, List.setIfInBounds_toArray, List.set_cons_zero, List.set_cons_succ]
  refine held_takeG 10 (o := _) rfl (by kernel_rfl) (by kernel_rfl) (by kernel_rfl) (by simp [Region.wanted, yielded]) (.agg (arr ctr)) (fun _ _ _ h => h) (fun W hW => run_load_arr (by rfl) (by simp [Act.eval]) ty16 ctr Hc.out ((StS.ctr hW).cells_arr)) (by assumption) ?_
  simp only [Act.put, List.getElem_toArray, List.getElem_cons_succ, List.getElem_cons_zero, List.setIfInBounds_toArray, List.set_cons_zero, List.set_cons_succ]
  refine held_takeG 11 (o := _) rfl (by kernel_rfl) (by kernel_rfl) (by kernel_rfl) (by simp [Region.wanted, yielded]) (.slice A5 m cp5) (fun _ _ _ h => h) (fun W hW => run_move (by rfl) (by simp [Act.eval]) W) (by assumption) ?_
  simp only [Act.put, List.getElem_toArray, List.getElem_cons_succ, List.getElem_cons_zero, List.setIfInBounds_toArray, List.set_cons_zero, List.set_cons_succ]
  refine held_takeG 14 (o := _) rfl (by kernel_rfl) (by kernel_rfl) (by kernel_rfl) (by simp [Region.wanted, yielded]) (.slice D m d) (fun _ _ _ h => h) (fun W hW => run_move (by rfl) (by simp [Act.eval]) W) (by assumption) ?_
  simp only [Act.put, List.getElem_toArray, List.getElem_cons_succ, List.getElem_cons_zero, List.setIfInBounds_toArray, List.set_cons_zero, List.set_cons_succ]
  refine held_takeG 15 (o := _) rfl (by kernel_rfl) (by kernel_rfl) (by kernel_rfl) (by simp [Region.wanted, yielded]) (.string (str b)) (fun _ _ _ h => h) (fun W hW => run_toStr (by rfl) Try.underlying22 Try.underlying5 Try.underlying9 _ D m d b (by simp [Act.eval]) (StS.inb hW)) (by assumption) ?_
  simp only [Act.put, List.getElem_toArray, List.getElem_cons_succ, List.getElem_cons_zero, List.setIfInBounds_toArray, List.set_cons_zero, List.set_cons_succ]
  refine held_callG 12 (by kernel_rfl) (o := _) rfl (by simp [Region.wanted, yielded]) 17 _ _ rfl #[.pointer (some ⟨g, 0, none⟩), .agg (arr ctr), .slice A5 m cp5] (by simp [Act.eval]) (enter_stream _) ?_
  refine (stream_any g rs Hrs.out.1 Hrs.out.2 ctr Hc.out A5 m cp5 S _ (StS.key (w := w) (ctr := ctr) (b := b) (S := S) (g2 := g2) (D := D) (A4 := A4) (A5 := A5) (m := m) (by assumption)) (StS.out (w := w) (ctr := ctr) (b := b) (g := g) (g2 := g2) (rs := rs) (D := D) (A4 := A4) (by assumption)) (by omega)).mono ?_
  rintro e w8 ⟨v8, rfl, own8, hB8⟩
  rw [HSS.out] at own8
  obtain ⟨A8, cp8, e8⟩ := own8.slice
  rw [Hbl.out] at e8
  subst e8
  have r8 := own8.reads_any.2
  refine ⟨_, rfl, StS.next (w := w) (ctr := ctr) (b := b) (S := S) (g := g) (g2 := g2) (rs := rs) (D := D) (A4 := A4) (A5 := A5) (m := m) (by assumption) hB8, ?_⟩
  intro hS8
  simp only [Act.put, List.getElem_toArray, List.getElem_cons_succ, List.getElem_cons_zero, List.setIfInBounds_toArray, List.set_cons_zero, List.set_cons_succ]
  refine held_do 13 (by kernel_rfl) (o := _) rfl (by simp [Region.wanted, yielded]) (.string (str b)) w8 (run_toStr (by rfl) Try.underlying22 Try.underlying5 Try.underlying9 _ A8 m cp8 b (by simp [Act.eval]) r8) hS8 ?_
  intro _
  simp only [Act.put, List.getElem_toArray, List.getElem_cons_succ, List.getElem_cons_zero, List.setIfInBounds_toArray, List.set_cons_zero, List.set_cons_succ]
  refine held_takeG 16 (o := _) rfl (by kernel_rfl) (by kernel_rfl) (by kernel_rfl) (by simp [Region.wanted, yielded]) (.bool true) (fun _ _ _ h => h) (fun W hW => run_eqStr_true (by rfl) b b (rfl) (by simp [Act.eval]) (by simp [Act.eval]) W) (by assumption) ?_
  simp only [Act.put, List.getElem_toArray, List.getElem_cons_succ, List.getElem_cons_zero, List.setIfInBounds_toArray, List.set_cons_zero, List.set_cons_succ]
  refine held_take 17 (o := _) rfl (by kernel_rfl) (by kernel_rfl) (by kernel_rfl) rfl (.bool true) (fun _ _ _ h => h) (fun W hW => run_pick (b := true) (by rfl) (by simp [Act.eval]) (by simp [Act.eval]) W) (by assumption) ?_
  simp only [Act.put, List.getElem_toArray, List.getElem_cons_succ, List.getElem_cons_zero, List.setIfInBounds_toArray, List.set_cons_zero, List.set_cons_succ]
  refine held_take 18 (o := _) rfl (by kernel_rfl) (by kernel_rfl) (by kernel_rfl) rfl (.bool true) (fun _ _ _ h => h) (fun W hW => run_assign (by rfl) (by simp [Act.eval]) W) (by assumption) ?_
  simp only [Act.put, List.getElem_toArray, List.getElem_cons_succ, List.getElem_cons_zero, List.setIfInBounds_toArray, List.set_cons_zero, List.set_cons_succ]
  refine wpAnyH_done (by kernel_rfl) ?_ _
  go_wp2
  go_ret
  exact ⟨rfl, StS.old hS8⟩

end Go.Proofs.Ytbbfckdcfbacpaa
