/-
  chain.counted, walked.
-/
import Derived.Test.YtncaplplkfihgaaGreatDoorHoD
import Derived.RangeFuncBox
import Derived.BigRegionIn
set_option linter.unusedVariables false
set_option linter.unusedSimpArgs false
set_option maxRecDepth 100000
namespace Go.Proofs.YtncaplplkfihgaaGreatDoor
open Go.RowKit
attribute [local go_sem] Oper.semAt_some
namespace Host
def seqW (l : List UInt8) (w : World) : World := ((w.alloc (.cells #[.string (str l)] 9)).alloc (.cells #[.string (str [46])] 9)).alloc (.cells #[.int .i64 0] 3)
def seqV (w : World) : Value := .func (.func 91) #[] #[.pointer (some ⟨w.heap.size + 1, 0, none⟩), .pointer (some ⟨w.heap.size, 0, none⟩), .pointer (some ⟨w.heap.size + 1 + 1, 0, none⟩)]
theorem dropWhile_nilH {f : UInt8 → Bool} : ∀ l : List UInt8, l.dropWhile f = [] ↔ ∀ c ∈ l, f c = true
  | [] => by simp
  | x :: r => by
    rw [List.dropWhile_cons]
    by_cases h : f x = true
    · rw [if_pos h, dropWhile_nilH r]
      simp [h]
    · rw [if_neg h]
      simp [h]
theorem trim_nilH (S : List UInt8) (l : List UInt8) : (trimR (inSet S) l).dropWhile (inSet S) = [] ↔ ∀ c ∈ l, inSet S c = true := by
  rw [dropWhile_nilH]
  constructor
  · intro h
    unfold trimR at h
    rcases hd : l.reverse.dropWhile (inSet S) with _ | ⟨x, r⟩
    · intro c hc
      exact (dropWhile_nilH l.reverse).1 hd c (List.mem_reverse.2 hc)
    · have hx : inSet S x = true := h x (by rw [hd]; simp)
      have := List.head_dropWhile_not (inSet S) (l := l.reverse) (by rw [hd]; simp)
      simp only [hd, List.head_cons] at this
      rw [hx] at this
      cases this
  · intro h c hc
    unfold trimR at hc
    refine h c ?_
    have h1 := List.mem_reverse.1 hc
    exact List.mem_reverse.1 ((List.dropWhile_suffix _).subset h1)
theorem str_ne_nil (p : List UInt8) (h : 1 ≤ p.length) : (str p).toList.isEmpty = false := by
  rw [str, ByteArray.toList_mk]
  cases p with
  | nil => simp at h
  | cons x r => rfl
theorem n8_inj {a : UInt8} (h : n8 a = 45) : a = 45 := UInt8.toNat_inj.1 h
theorem st_len (l : List UInt8) : (st l).1.length ≤ l.length := by
  refine snoc_ind (m := fun l => (st l).1.length ≤ l.length) (Nat.le_refl 0) ?_ l
  intro l x ih
  rw [st_snoc]
  unfold step
  split
  · simp; omega
  · simp; omega
theorem parts_len (l : List UInt8) : (parts l).length ≤ l.length + 1 := by unfold parts; have := st_len l; simp; omega
theorem nil_toList : (str []).toList = [] := by rw [str, ByteArray.toList_mk]
theorem asize (w : World) (o : Obj) : (w.alloc o).heap.size = w.heap.size + 1 := by show (w.heap.push o).size = _; rw [Array.size_push]
structure Jc (h g : Nat) (w : World) (lp : Loop) (k : Nat) (W : World) : Prop where
  r0 : Blk W h 3 #[.int .i64 0]
  r1 : Blk W (h + 1) 3 #[.int .i64 (k : Int)]
  dfr : W.heap[g + 3]? = some (.deferred (some []))
  loop : W.heap[g + 3 + 1]? = some (.loop lp)
  below : Below h w W
theorem Jc.put {h g k : Nat} {w : World} {lp : Loop} {W : World} (lp' : Loop) (hg : h + 2 ≤ g) (hJ : Jc h g w lp k W) : Jc h g w lp' k (W.putObj (g + 3 + 1) (.loop lp')) := by
  have hgr := grownBy_putObj' W (g + 3 + 1) (.loop lp')
  have hw := (Array.getElem?_eq_some_iff.1 hJ.loop).1
  exact ⟨hJ.r0.grown hgr (by intro e; injection e; omega), hJ.r1.grown hgr (by intro e; injection e; omega), (World.putObj_heap_other (by omega)).trans hJ.dfr, World.putObj_heap_same hw, hJ.below.grown hgr (by omega) (fun k hk => by injection hk; omega)⟩
theorem Jc.after {h g k : Nat} {w : World} {lp : Loop} {W W3 : World} (hg : h + 2 ≤ g) (hJ : Jc h g w lp k W) (hB3 : Below W.heap.size W W3) : Jc h g w lp k W3 := by
  have h1 := (Array.getElem?_eq_some_iff.1 hJ.dfr).1
  have h2 := (Array.getElem?_eq_some_iff.1 hJ.loop).1
  exact ⟨hJ.r0.below hB3 hJ.r0.lt, hJ.r1.below hB3 hJ.r1.lt, (hB3.block _ h1).trans hJ.dfr, (hB3.block _ h2).trans hJ.loop, hJ.below.trans (hB3.mono (Nat.le_of_lt hJ.r0.lt))⟩
theorem Jc.next {h g k j : Nat} {w : World} {lp : Loop} {W : World} (hg : h + 2 ≤ g) (hJ : Jc h g w lp k W) : Jc h g w lp j (W.setCell ⟨h + 1, 0, none⟩ (.int .i64 (j : Int))) :=
  ⟨hJ.r0.far (p := ⟨h + 1, 0, none⟩) (by show h ≠ h + 1; omega) _, hJ.r1.set_ 0 (.int .i64 (j : Int)), (Below.heap_setCell W ⟨h + 1, 0, none⟩ _ _ (by show g + 3 ≠ h + 1; omega)).trans hJ.dfr, (Below.heap_setCell W ⟨h + 1, 0, none⟩ _ _ (by show g + 3 + 1 ≠ h + 1; omega)).trans hJ.loop, hJ.below.setCell (p := ⟨h + 1, 0, none⟩) (by show h ≤ h + 1; omega) _⟩
theorem Jc.zero {h g k : Nat} {w : World} {lp : Loop} {W : World} (hg : h + 2 ≤ g) (hJ : Jc h g w lp k W) : Jc h g w lp k (W.setCell ⟨h, 0, none⟩ (.int .i64 0)) :=
  ⟨hJ.r0.set_ 0 (.int .i64 0), hJ.r1.far (p := ⟨h, 0, none⟩) (by show h + 1 ≠ h; omega) _, (Below.heap_setCell W ⟨h, 0, none⟩ _ _ (by show g + 3 ≠ h; omega)).trans hJ.dfr, (Below.heap_setCell W ⟨h, 0, none⟩ _ _ (by show g + 3 + 1 ≠ h; omega)).trans hJ.loop, hJ.below.setCell (p := ⟨h, 0, none⟩) (Nat.le_refl _) _⟩
theorem run_ldc {P : Program} {w : World} {t : TypeId} (hty : ((P.underlying t).map isAggD) = some false) (ad : Addr) (v : Value) (h : w.cell? ad = some v) : (loadVar t ad).run P w = .ok v w := by
  have hag : (isAgg t).run P w = .ok false w := by
    cases hq : P.underlying t with
    | none => simp [hq] at hty
    | some d =>
      unfold isAgg
      rw [Sem.run_bind, run_underlying hq w]
      rw [hq] at hty
      cases d <;> simp_all [isAggD]
  simp [loadVar, Sem.run_bind, hag, go_sem, h]
theorem res1 {P : Program} {w : World} {fn : Func} {tmps : Array Value} {p : Tmp} {t1 : TypeId} {a1 : Addr} {v1 : Value} (h : fn.results = #[.cell p t1]) (h1 : tmps.getD p undef = .pointer (some a1))
    (n1 : ((P.underlying t1).map isAggD) = some false) (c1 : w.cell? a1 = some v1) :
    (results fn tmps).run P w = .ok v1 w := by
  have g1 : tmps[p]?.getD undef = .pointer (some a1) := by simpa using h1
  simp [results, h, g1, asAddr, run_ldc n1 a1 v1 c1]
end Host
/-- The outermost range over a function. -/
theorem rf_outerH {P : Program} {n : Nat} {g : Operand} {ps : Array Tmp} {assign body : Code} {Q : Exit → Act → World → Prop} {a : Act} {w : World} {gf : Nat} {lb : Array Value} (hg : a.eval g = .func (.func gf) #[] lb) (eg : ∀ args w, (callFunc gf args).run P w = .ok (.enter gf args) w)
    (h : ∀ (fn : Nat) (rec : Loop), rec = { state := .ready, pending := none, fn, tmps := a.tmps, params := ps, assign, body, defers := w.heap.size } →
      CallsIn Fence.wide (n - 1) P gf (#[.func (.yield (w.heap.size + 1)) #[] #[]] ++ lb) ((w.alloc (.deferred (some []))).alloc (.loop rec)) (rangePost Fence.wide n P (w.heap.size + 1) Q { a with defers := [{ target := .collected w.heap.size, args := #[] }] ++ a.defers })) :
    (Code.rangeFunc g ps assign body).wpIn Fence.wide n P Q a w := by
  refine wpIn_rangeFunc ?_
  intro fn _
  obtain ⟨rec, hrec⟩ : ∃ rec : Loop, rec = { state := .ready, pending := none, fn, tmps := a.tmps, params := ps, assign, body, defers := w.heap.size } := ⟨_, rfl⟩
  have he : (Instr.enterLoop fn a.tmps ps assign body Fence.wide.round).run P w = .ok (w.heap.size + 1, [{ target := .collected w.heap.size, args := #[] }]) ((w.alloc (.deferred (some []))).alloc (.loop rec)) := by
    rw [hrec]; exact run_enterLoop_outer _ _ _ _ _
  refine ⟨w.heap.size + 1, [{ target := .collected w.heap.size, args := #[] }], (w.alloc (.deferred (some []))).alloc (.loop rec), { target := .fn (.func gf) lb, args := #[.func (.yield (w.heap.size + 1)) #[] #[]] }, (w.alloc (.deferred (some []))).alloc (.loop rec), gf, #[.func (.yield (w.heap.size + 1)) #[] #[]] ++ lb, (w.alloc (.deferred (some []))).alloc (.loop rec), he, ?_, ?_, ?_, ?_, ?_⟩
  rotate_right
  · exact h fn rec hrec
  · have hg' : (Callee.value g : Callee) = .value g := rfl
    unfold rangeCall
    simp only [resolve, hg]
    simp [go_sem]
  · intro _ _; trivial
  · simp only [invoke]; rw [eg]
  · intro h0; exact absurd h0 (by decide)
theorem enter_split1 (args : Array Value) (w : World) : (callFunc 91 args).run Tryz.prog w = .ok (.enter 91 args) w := by kernel_rfl
theorem splitSeq_any (l : List UInt8) (w : World) : Calls Tryz.prog 56 #[.string (str l), .string (str [46]), .int .i64 0] w fun e w' => e = .returned (Host.seqV w) ∧ w' = Host.seqW l w := by
  go_enter Tryz.func56, Tryz.ntmps56
  go_wp2
  go_ret
  exact ⟨rfl, rfl⟩
theorem SplitSeq_any (l : List UInt8) (w : World) : Calls Tryz.prog 40 #[.string (str l), .string (str [46])] w fun e w' => e = .returned (Host.seqV w) ∧ w' = Host.seqW l w := by
  go_enter Tryz.func40, Tryz.ntmps40
  go_wp2_with (first | (refine (splitSeq_any l w).mono ?_; rintro e w1 ⟨rfl, rfl⟩))
  go_ret
  exact ⟨rfl, rfl⟩
theorem chainlabels_any (l : List UInt8) (w : World) : Calls Tryz.prog 32 #[.string (str l)] w fun e w' => e = .returned (Host.seqV w) ∧ w' = Host.seqW l w := by
  go_enter Tryz.func32, Tryz.ntmps32
  go_wp2_with (first | (refine (SplitSeq_any l w).mono ?_; rintro e w1 ⟨rfl, rfl⟩))
  go_ret
  exact ⟨rfl, rfl⟩
set_option maxHeartbeats 4000000 in
set_option maxRecDepth 100000 in
theorem counted_any (l : List UInt8) (hl : l.length ≤ 9223372036854775800) (w : World) : Calls Tryz.prog 10 #[.string (str l)] w fun e w' => e = .returned (.int .i64 ((Host.lab l : Nat) : Int)) ∧ Below w.heap.size w w' := by
  refine (callsIn_wide (n := 9)).1 ?_
  refine callsIn_of_wp_marks Tryz.func10 rfl trivial ?_ rfl
  simp only [Tryz.func10, Tryz.ntmps10, List.size_toArray, List.length_cons, List.length_nil, Nat.reduceAdd, Nat.reduceSub, Array.replicate_succ, Array.replicate_zero, List.push_toArray, List.append_toArray, List.nil_append, List.cons_append]
  gi_wp2_with (first
    | (refine ⟨trivial, ?_⟩; refine (callsIn_wide.2 (lowered_any l hl _)).mono ?_; rintro e w1 ⟨rfl, hB1⟩)
    | (refine ⟨trivial, ?_⟩; refine (callsIn_wide.2 (chainlabels_any _ _)).mono ?_; rintro e w2 ⟨rfl, rfl⟩))
  obtain ⟨g, Hg⟩ : ∃ x, Hd (w1.heap.size = x) := ⟨_, ⟨rfl⟩⟩
  obtain ⟨W0, HW0⟩ : ∃ x, Hd (Host.seqW (Host.low l) w1 = x) := ⟨_, ⟨rfl⟩⟩
  have hs1 : w.heap.size + 2 ≤ g := by have h1 := hB1.size; simp only [Host.asize] at h1; rw [← Hg.out]; omega
  have hs0 : W0.heap.size = g + 3 := by rw [← HW0.out, ← Hg.out]; simp only [Host.seqW, Host.asize]
  have hBA : Below w.heap.size w ((w.alloc (.cells #[.int .i64 0] 3)).alloc (.cells #[.int .i64 0] 3)) := ((Below.refl _ w).alloc (Nat.le_refl _) _).alloc (by simp only [Host.asize]; omega) _
  have r0 : Blk w1 w.heap.size 3 #[.int .i64 0] := ((Blk.nu rfl).alloc _).below hB1 (by simp only [Host.asize]; omega)
  have r1 : Blk w1 (w.heap.size + 1) 3 #[.int .i64 0] := (Blk.nu (by simp)).below hB1 (by simp only [Host.asize]; omega)
  have hBw1 : Below w.heap.size w w1 := hBA.trans (hB1.mono (by simp only [Host.asize]; omega))
  have b0 : Blk W0 w.heap.size 3 #[.int .i64 0] := by rw [← HW0.out]; exact ((r0.alloc _).alloc _).alloc _
  have b1 : Blk W0 (w.heap.size + 1) 3 #[.int .i64 0] := by rw [← HW0.out]; exact ((r1.alloc _).alloc _).alloc _
  have b2 : Blk W0 g 9 #[.string (str (Host.low l))] := by rw [← HW0.out]; exact ((Blk.nu Hg.out.symm).alloc _).alloc _
  have b3 : Blk W0 (g + 1) 9 #[.string (str [46])] := by rw [← HW0.out]; exact (Blk.nu (by simp [Hg.out])).alloc _
  have b4 : Blk W0 (g + 1 + 1) 3 #[.int .i64 0] := by rw [← HW0.out]; exact Blk.nu (by simp [Hg.out])
  have hB0 : Below w.heap.size w W0 := by rw [← HW0.out]; exact ((hBw1.alloc hBw1.size _).alloc (by have := hBw1.size; simp only [Host.asize]; omega) _).alloc (by have := hBw1.size; simp only [Host.asize]; omega) _
  unfold Host.seqV
  rw [HW0.out, Hg.out]
  clear HW0 r0 r1 hB1 hBA hBw1
  refine rf_outerH (gf := 91) (lb := #[.pointer (some ⟨g + 1, 0, none⟩), .pointer (some ⟨g, 0, none⟩), .pointer (some ⟨g + 1 + 1, 0, none⟩)]) rfl enter_split1 (fun fn rec hrec => ?_)
  rw [hs0]
  have hBl := ((Below.refl W0.heap.size W0).alloc (Nat.le_refl _) (.deferred (some []))).alloc (by rw [Host.asize]; omega) (.loop rec)
  refine (splits_runs 8 (g + 3 + 1) g (g + 1) (g + 1 + 1) (Host.low l) (by rw [Host.low_len]; exact hl) ⟨by omega, by omega⟩ (Host.Jc w.heap.size g w rec) (fun W => ∃ k, Host.Jc w.heap.size g w { rec with state := .done, pending := some .ret } k W) ?hS ?hY ?hE _ (b2.below hBl b2.lt) (b3.below hBl b3.lt) (b4.below hBl b4.lt) ?h0).mono ?post
  case h0 =>
    refine ⟨b0.below hBl b0.lt, b1.below hBl b1.lt, ?_, ?_, hB0.trans (hBl.mono (by omega))⟩
    · have h1 := heap_alloc_new W0 (.deferred (some []))
      rw [hs0] at h1
      exact (Below.heap_alloc _ (.loop rec) _ (by rw [Host.asize, hs0]; omega)).trans h1
    · have h1 := heap_alloc_new (W0.alloc (.deferred (some []))) (.loop rec)
      rw [Host.asize, hs0] at h1
      exact h1
  case hS =>
    intro j W v hJ
    exact ⟨hJ.r0.far (p := ⟨g, 0, none⟩) (by show w.heap.size ≠ g; omega) v, hJ.r1.far (p := ⟨g, 0, none⟩) (by show w.heap.size + 1 ≠ g; omega) v, (Below.heap_setCell W ⟨g, 0, none⟩ v _ (by show g + 3 ≠ g; omega)).trans hJ.dfr, (Below.heap_setCell W ⟨g, 0, none⟩ v _ (by show g + 3 + 1 ≠ g; omega)).trans hJ.loop, hJ.below.setCell (p := ⟨g, 0, none⟩) (by show w.heap.size ≤ g; omega) v⟩
  case hY =>
    intro j p W hJ hj hp hk
    have hy := run_yield (P := Tryz.prog) (args := #[.string (str p)]) hJ.loop (by rw [hrec]; rfl)
    rw [hrec] at hy
    refine ⟨_, _, _, _, hy, roundIn_of_wpIn trivial ?_⟩
    clear hy
    gi_wp2
    refine ⟨_, run_beginRound hJ.loop (by rw [hrec]), ?_⟩
    obtain ⟨rb, Hrb⟩ : ∃ y : Loop, Hd ({ rec with state := .busy } = y) := ⟨_, ⟨rfl⟩⟩
    rw [Hrb.out]
    have hJb := hJ.put rb hs1
    obtain ⟨Wb, HWb⟩ : ∃ y, Hd (W.putObj (g + 3 + 1) (.loop rb) = y) := ⟨_, ⟨rfl⟩⟩
    have hkb : ∀ k, k ≠ g + 3 + 1 → Wb.heap[k]? = W.heap[k]? := fun k hk => by rw [← HWb.out]; exact World.putObj_heap_other hk
    rw [HWb.out] at hJb ⊢
    obtain ⟨o1, o2, o3, o4, o5⟩ := hk
    have e1 : (str p).toList.isEmpty = false := Host.str_ne_nil p (by omega)
    have e2 : ¬ (63 : Int) < ((str p).size : Int) := by rw [str_size]; omega
    obtain ⟨m, Hm⟩ : ∃ x, Hd (p.length - 1 = x) := ⟨_, ⟨rfl⟩⟩
    rw [Hm.out] at o5
    have s0 : 0 < (str p).size := by rw [str_size]; omega
    have s1 : (str p).size - 1 < (str p).size := by omega
    have s2 : 1 ≤ ((str p).size : Int) := by omega
    have s3 : ((str p).size : Int) - 1 < ((str p).size : Int) := by omega
    have v0 : ((((str p)[0]'s0).toNat : Int) == 45) = false := by
      rw [str_get p _ s0, beq_eq_false_iff_ne]
      exact fun h => o4 (Host.n8_inj (show n8 (nth p 0) = 45 by unfold n8; omega))
    have v1 : ((((str p)[(str p).size - 1]'s1).toNat : Int) == 45) = false := by
      rw [str_get p _ s1, str_size, Hm.out, beq_eq_false_iff_ne]
      exact fun h => o5 (Host.n8_inj (show n8 (nth p m) = 45 by unfold n8; omega))
    have r00 := hJb.r0
    have hz := Host.nil_toList
    have hjl : j + 1 < 9223372036854775808 := by
      have h1 := (List.getElem?_eq_some_iff.1 hj).1
      have h2 := Host.parts_len (Host.low l)
      rw [Host.low_len] at h2
      omega
    have wj : wrap64 ((j : Int) + 1) = ((j + 1 : Nat) : Int) := by rw [show (j : Int) + 1 = ((j + 1 : Nat) : Int) by omega]; exact IntWalk.wrap64_in _ (by omega)
    have hT : (trimR (inSet Host.set37) p).dropWhile (inSet Host.set37) = [] := (Host.trim_nilH Host.set37 p).2 o3
    gi_wp2_with (first
      | (refine ⟨trivial, ?_⟩; refine (CallsIn.inRound _ (callsIn_wide.2 (trim_any Host.set37 p (by decide) (by decide) (by decide) (by omega) _))).mono ?_; rw [hT]; rintro e w3 ⟨rfl, hB3⟩; have r13 := hJb.r1.below hB3 hJb.r1.lt; have c13 := r13.cell 0; have f13 := r13.frozen 0))
    rw [show ((j : Int) + 1) = ((j + 1 : Nat) : Int) by omega]
    have hJf := (hJb.after hs1 hB3).next (j := j + 1) hs1
    refine ⟨_, _, run_endRound none hJf.loop, ?_, ?_⟩
    · rfl
    · have h2 : ({ rb with state := if (none : Option Code).isNone = true then .ready else .done, pending := none } : Loop) = rec := by rw [← Hrb.out, hrec]; rfl
      have h1 := hJf.put rec hs1
      have h3 := (Array.getElem?_eq_some_iff.1 hJb.dfr).1
      rw [h2]
      refine ⟨h1, fun k hk => ?_⟩
      exact (World.putObj_heap_other (by omega)).trans ((Below.heap_setCell w3 ⟨w.heap.size + 1, 0, none⟩ _ _ (by show k ≠ w.heap.size + 1; omega)).trans ((hB3.block k (by omega)).trans (hkb k (by omega))))
  case hE =>
    intro j p W hJ hj hp hk
    have hy := run_yield (P := Tryz.prog) (args := #[.string (str p)]) hJ.loop (by rw [hrec]; rfl)
    rw [hrec] at hy
    refine ⟨_, _, _, _, hy, roundIn_of_wpIn trivial ?_⟩
    clear hy
    gi_wp2
    refine ⟨_, run_beginRound hJ.loop (by rw [hrec]), ?_⟩
    obtain ⟨rb, Hrb⟩ : ∃ y : Loop, Hd ({ rec with state := .busy } = y) := ⟨_, ⟨rfl⟩⟩
    rw [Hrb.out]
    have hJb := hJ.put rb hs1
    obtain ⟨Wb, HWb⟩ : ∃ y, Hd (W.putObj (g + 3 + 1) (.loop rb) = y) := ⟨_, ⟨rfl⟩⟩
    rw [HWb.out] at hJb ⊢
    have hEnd : ∀ w3, Below Wb.heap.size Wb w3 → ∃ v w', (Instr.endRound (g + 3 + 1) (some .ret)).run Tryz.prog (w3.setCell ⟨w.heap.size, 0, none⟩ (.int .i64 0)) = .ok v w' ∧ v = .bool false ∧ ∃ k, Host.Jc w.heap.size g w { rec with state := .done, pending := some .ret } k w' := by
      intro w3 hB3
      have hJf := (hJb.after hs1 hB3).zero hs1
      refine ⟨_, _, run_endRound (some .ret) hJf.loop, rfl, j, ?_⟩
      have h2 : ({ rb with state := if (some Code.ret : Option Code).isNone = true then .ready else .done, pending := some .ret } : Loop) = { rec with state := .done, pending := some .ret } := by rw [← Hrb.out]; rfl
      have h1 := hJf.put { rec with state := .done, pending := some .ret } hs1
      rw [h2]
      exact h1
    have hz := Host.nil_toList
    have r00 := hJb.r0
    have c00 := r00.cell 0
    have f00 := r00.frozen 0
    by_cases n0 : p.length = 0
    · have e1 : (str p).toList.isEmpty = true := by rw [List.length_eq_zero_iff.1 n0, Host.nil_toList]; rfl
      obtain ⟨v, w', q1, q2, q3⟩ := hEnd Wb (Below.refl _ _)
      clear hEnd
      gi_wp2
      refine ⟨trivial, ?_⟩
      rename_i a9
      refine a9 _ _ ?_
      gi_wp2
      exact ⟨_, _, q1, by rw [q2], q3⟩
    have e1 : (str p).toList.isEmpty = false := Host.str_ne_nil p (by omega)
    by_cases n1 : 63 < p.length
    · have e2 : (63 : Int) < ((str p).size : Int) := by rw [str_size]; omega
      obtain ⟨v, w', q1, q2, q3⟩ := hEnd Wb (Below.refl _ _)
      clear hEnd
      gi_wp2
      refine ⟨trivial, ?_⟩
      rename_i a9
      refine a9 _ _ ?_
      gi_wp2
      exact ⟨_, _, q1, by rw [q2], q3⟩
    have e2 : ¬ (63 : Int) < ((str p).size : Int) := by rw [str_size]; omega
    have hpl : p.length ≤ 9223372036854775800 := by rw [Host.low_len] at hp; omega
    have s0 : 0 < (str p).size := by rw [str_size]; omega
    have s1 : (str p).size - 1 < (str p).size := by omega
    have s2 : 1 ≤ ((str p).size : Int) := by omega
    have s3 : ((str p).size : Int) - 1 < ((str p).size : Int) := by omega
    by_cases n2 : ∀ c ∈ p, inSet Host.set37 c = true
    · have hT : (trimR (inSet Host.set37) p).dropWhile (inSet Host.set37) = [] := (Host.trim_nilH Host.set37 p).2 n2
      by_cases n3 : nth p 0 = 45
      · have v0 : ((((str p)[0]'s0).toNat : Int) == 45) = true := by
          rw [str_get p _ s0, n3]; rfl
        gi_wp2_with (first
          | (refine ⟨trivial, ?_⟩; refine (CallsIn.inRound _ (callsIn_wide.2 (trim_any Host.set37 p (by decide) (by decide) (by decide) (by omega) _))).mono ?_; rw [hT]; rintro e w3 ⟨rfl, hB3⟩; obtain ⟨v, w', q1, q2, q3⟩ := hEnd w3 hB3; have r13 := hJb.r0.below hB3 hJb.r0.lt; have c13 := r13.cell 0; have f13 := r13.frozen 0))
        exact ⟨_, _, q1, by rw [q2], q3⟩
      · have v0 : ((((str p)[0]'s0).toNat : Int) == 45) = false := by
          rw [str_get p _ s0, beq_eq_false_iff_ne]
          exact fun h => n3 (Host.n8_inj (show n8 (nth p 0) = 45 by unfold n8; omega))
        have n4 : nth p (p.length - 1) = 45 := by
          rcases Decidable.em (nth p (p.length - 1) = 45) with h | h
          · exact h
          · exact absurd (⟨by omega, by omega, n2, n3, h⟩ : Host.okC p) hk
        have v1 : ((((str p)[(str p).size - 1]'s1).toNat : Int) == 45) = true := by
          rw [str_get p _ s1, str_size, n4]; rfl
        gi_wp2_with (first
          | (refine ⟨trivial, ?_⟩; refine (CallsIn.inRound _ (callsIn_wide.2 (trim_any Host.set37 p (by decide) (by decide) (by decide) (by omega) _))).mono ?_; rw [hT]; rintro e w3 ⟨rfl, hB3⟩; obtain ⟨v, w', q1, q2, q3⟩ := hEnd w3 hB3; have r13 := hJb.r0.below hB3 hJb.r0.lt; have c13 := r13.cell 0; have f13 := r13.frozen 0))
        exact ⟨_, _, q1, by rw [q2], q3⟩
    · obtain ⟨q, hT⟩ : ∃ q, (trimR (inSet Host.set37) p).dropWhile (inSet Host.set37) = q := ⟨_, rfl⟩
      have hq : ¬ (str q).toList = [] := by
        rw [str, ByteArray.toList_mk]
        intro h
        exact n2 ((Host.trim_nilH Host.set37 p).1 (hT.trans h))
      gi_wp2_with (first
        | (refine ⟨trivial, ?_⟩; refine (CallsIn.inRound _ (callsIn_wide.2 (trim_any Host.set37 p (by decide) (by decide) (by decide) (by omega) _))).mono ?_; rw [hT]; rintro e w3 ⟨rfl, hB3⟩; obtain ⟨v, w', q1, q2, q3⟩ := hEnd w3 hB3; have r13 := hJb.r0.below hB3 hJb.r0.lt; have c13 := r13.cell 0; have f13 := r13.frozen 0))
      exact ⟨_, _, q1, by rw [q2], q3⟩
  case post =>
    rintro e W2 ⟨⟨v, rfl⟩, hr⟩
    rcases hr with ⟨hall, hJ⟩ | ⟨⟨p, hp, hk⟩, k, hJ⟩
    · obtain ⟨lp, hend⟩ : ∃ o, (Instr.endLoop (g + 3 + 1)).run Tryz.prog W2 = .ok none (W2.putObj (g + 3 + 1) (.loop o)) := by
        have h := run_endLoop (P := Tryz.prog) hJ.loop (by rw [hrec]; intro h; cases h)
        rw [show rec.pending = none by rw [hrec]] at h
        exact ⟨_, h⟩
      refine ⟨none, _, hend, ?_⟩
      have hJ4 := hJ.put lp hs1
      obtain ⟨W4, HW4⟩ : ∃ x, Hd (W2.putObj (g + 3 + 1) (.loop lp) = x) := ⟨_, ⟨rfl⟩⟩
      rw [HW4.out] at hJ4 ⊢
      have r04 := hJ4.r0
      have c04 := r04.cell 0
      have f04 := r04.frozen 0
      have c14 := hJ4.r1.cell 0
      clear HW4 hend hJ b0 b1 b2 b3 b4 hBl hB0
      by_cases hlen : l.length ≤ 253
      · have t1 : ¬ (253 : Int) < ((str l).size : Int) := by rw [str_size]; omega
        gi_wp2
        have hlab : Host.lab l = (Host.parts (Host.low l)).length := by rw [Host.lab_low, if_pos ⟨hall, hlen⟩]
        rw [hlab]
        have r05 := r04.set_ 0 (.int .i64 (((Host.parts (Host.low l)).length : Nat) : Int))
        have d05 : (W4.setCell ⟨w.heap.size, 0, none⟩ (.int .i64 (((Host.parts (Host.low l)).length : Nat) : Int))).heap[g + 3]? = some (.deferred (some [])) := (Below.heap_setCell W4 ⟨w.heap.size, 0, none⟩ _ _ (by show g + 3 ≠ w.heap.size; omega)).trans hJ4.dfr
        have B05 := hJ4.below.setCell (p := ⟨w.heap.size, 0, none⟩) (Nat.le_refl _) (.int .i64 (((Host.parts (Host.low l)).length : Nat) : Int))
        refine ⟨by simp, .inl ⟨_, _, rfl, run_takeDeferred d05, ?_⟩⟩
        have hg6 := grownBy_putObj' (W4.setCell ⟨w.heap.size, 0, none⟩ (.int .i64 (((Host.parts (Host.low l)).length : Nat) : Int))) (g + 3) (.deferred none)
        exact ⟨_, Host.res1 rfl rfl (by kernel_rfl) ((r05.grown hg6 (by intro e; injection e; omega)).cell 0), rfl, B05.grown hg6 (by have := r05.lt; omega) (fun k hk => by injection hk; omega)⟩
      · have t1 : (253 : Int) < ((str l).size : Int) := by rw [str_size]; omega
        gi_wp2
        have hlab : Host.lab l = 0 := by rw [Host.lab_low, if_neg (fun h => hlen h.2)]
        rw [hlab]
        have r05 := r04.set_ 0 (.int .i64 0)
        have d05 : (W4.setCell ⟨w.heap.size, 0, none⟩ (.int .i64 0)).heap[g + 3]? = some (.deferred (some [])) := (Below.heap_setCell W4 ⟨w.heap.size, 0, none⟩ _ _ (by show g + 3 ≠ w.heap.size; omega)).trans hJ4.dfr
        have B05 := hJ4.below.setCell (p := ⟨w.heap.size, 0, none⟩) (Nat.le_refl _) (.int .i64 0)
        refine ⟨by simp, .inl ⟨_, _, rfl, run_takeDeferred d05, ?_⟩⟩
        have hg6 := grownBy_putObj' (W4.setCell ⟨w.heap.size, 0, none⟩ (.int .i64 0)) (g + 3) (.deferred none)
        exact ⟨_, Host.res1 rfl rfl (by kernel_rfl) ((r05.grown hg6 (by intro e; injection e; omega)).cell 0), rfl, B05.grown hg6 (by have := r05.lt; omega) (fun k hk => by injection hk; omega)⟩
    · have hend := run_endLoop (P := Tryz.prog) hJ.loop (by intro h; cases h)
      refine ⟨some .ret, _, hend, ?_⟩
      have hJ4 := hJ.put { rec with state := .exhausted, pending := some .ret } hs1
      obtain ⟨W4, HW4⟩ : ∃ x, Hd (W2.putObj (g + 3 + 1) (.loop { rec with state := .exhausted, pending := some .ret }) = x) := ⟨_, ⟨rfl⟩⟩
      rw [HW4.out] at hJ4
      show Code.ret.wpIn _ _ _ _ _ (W2.putObj (g + 3 + 1) (.loop { rec with state := .exhausted, pending := some .ret }))
      rw [HW4.out]
      clear HW4 hend hJ b0 b1 b2 b3 b4 hBl hB0
      have hlab : Host.lab l = 0 := by rw [Host.lab_low, if_neg (fun h => hk (h.1 p hp))]
      gi_wp2
      refine ⟨by simp, .inl ⟨_, _, rfl, run_takeDeferred hJ4.dfr, ?_⟩⟩
      have hg6 := grownBy_putObj' W4 (g + 3) (.deferred none)
      exact ⟨_, Host.res1 rfl rfl (by kernel_rfl) ((hJ4.r0.grown hg6 (by intro e; injection e; omega)).cell 0), rfl, hJ4.below.grown hg6 (by have := hJ4.r0.lt; omega) (fun k hk => by injection hk; omega)⟩
end Go.Proofs.YtncaplplkfihgaaGreatDoor
